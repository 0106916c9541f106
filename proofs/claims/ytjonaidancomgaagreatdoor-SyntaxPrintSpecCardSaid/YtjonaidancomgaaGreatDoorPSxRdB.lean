/- Parts of the proof, joined into one text: q1L, q1M. -/
import Derived.Test.YtjonaidancomgaaGreatDoorPSxRd
import Derived.Test.YtjonaidancomgaaGreatDoorPSxPrR
import Derived.Deep.Cut
namespace Go.Proofs.YtjonaidancomgaaGreatDoor.Sx
open Lx (Tok)
variable {last : Int} {l m : List Tok}
def Course.un (x:Course):Course:={ x with need:=x.need.un,bar:=x.bar.un }
def Pair.un (x:Pair):Pair:={ x with x:=jM x.a x.x,y:=jM x.b x.y }
def iK.un (r:iK):iK:={ r with froms:=(r.names.zip r.froms).map fun p=>jM p.1 p.2 }
def Prog.un (x:Prog):Prog:={ x with reqs:=x.reqs.map iK.un }
def dh.un (c:dh):dh:={ c with courses:=c.courses.map Course.un,same:=c.same.map Pair.un,aS:=c.aS.map Prog.un }
theorem zY {k:Nat} {r:Rule} (h:aO (k+1) r=true) {o:Int} (ho:o=1∨o=2) (h1:r.op=o) (h2:r.kids = []):r = .mk o 0 [] 0 0 []:=by
 obtain ⟨op,co,nm,n,d,ks⟩:=r;obtain ⟨_,_,hop⟩:=qH h;simp only[Rule.op] at h1;simp only[Rule.kids] at h2;subst h1;subst h2
 rcases hop with ⟨_,rfl,rfl,rfl,rfl⟩ | h' | h' | h' | h' | h' | h' | h' <;> first | rfl | omega
def rep (l:List Tok):Int × List Tok:=match find repeatWords l with | some i=>((i:Int),l.tail) | none=>(0,l)
theorem uy (last:Int) (l:List Tok):course last l=(number last 0 4095 l).bind fun no l=>(name last l).bind fun nm l=>(number last 1 60 l).bind fun cr l3=>
  (sign last 123 (rep l3).2).bind fun _ l=>(opt last je (rule last 16 0) (.mk 1 0 [] 0 0 []) l).bind fun nd l=>
  (opt last lN (rule last 16 0) (.mk 2 0 [] 0 0 []) l).bind fun br l=>(sign last 125 l).bind fun _ l=>.ok ⟨nm,no,cr,(rep l3).1,nd,br⟩ l:=rfl
theorem I8 {x:Course} (h:dw x=true) (hs:dK l ((bP x).tail++m)):∃ r,course last l = .ok x.un r∧dK r m:=by
 unfold dw at h;simp only[Bool.and_eq_true,bM] at h;obtain ⟨⟨⟨⟨⟨h1,h2⟩,h3⟩,h4⟩,h5⟩,h6⟩:=h;obtain ⟨nm,no,cr,rp,nd,br⟩:=x;simp only at h1 h2 h3 h4 h5 h6;have s0:dK l (aW no::av nm::aW cr::((if rp≠0 then [av (repeatWords.getD rp.toNat [])] else [])++(bI 123 ::
  ((if nd.op≠1∨nd.kids≠[] then av je::(aF nd++[bI 59]) else [])++((if br.op≠2∨br.kids≠[] then av lN::(aF br++[bI 59]) else [])++(bI 125::m)))))):=by
  unfold bP at hs;simpa using hs
 obtain ⟨r1,e1,s1⟩:=dR (last:=last) (lo:=0) (hi:=4095) h1.1 h1.2 s0;obtain ⟨r2,e2,s2⟩:=qI (last:=last) s1;obtain ⟨r3,e3,s3⟩:=dR (last:=last) (lo:=1) (hi:=60) h3.1 h3.2 s2;obtain ⟨q,hq⟩:∃ q,q=bI 123::((if nd.op≠1∨nd.kids≠[] then av je::(aF nd++[bI 59]) else [])++((if br.op≠2∨br.kids≠[] then av lN::(aF br++[bI 59]) else [])++(bI 125::m))):=⟨_,rfl⟩
 rw[←hq] at s3;have hrep:∃ r,rep r3=(rp,r)∧dK r q:=by
  unfold rep
  by_cases h0:rp=0
  ·rw[if_neg (by omega),List.nil_append] at s3;refine ⟨r3,?_,s3⟩;have:find repeatWords r3=none:=by
    rw[hq] at s3;obtain ⟨u,s,rfl,⟨a1',_,_⟩,_⟩:=s3.sg2;unfold find hit repeatWords;simp[a1']
   rw[this,h0]
  ·rw[if_pos h0] at s3;have:oW repeatWords (av (repeatWords.getD rp.toNat []))=some rp.toNat:=by
    have:rp=1∨rp=2:=by omega
    rcases this with rfl | rfl <;> decide
   obtain ⟨k1,k2⟩:=Gj this s3;refine ⟨r3.tail,?_,k2⟩;rw[k1];simp only[Prod.mk.injEq,and_true];omega
 obtain ⟨r4,e4,s4⟩:=hrep;rw[hq] at s4;obtain ⟨r5,e5,s5⟩:=gB (last:=last) s4;obtain ⟨q2,hq2⟩:∃ q,q=(if br.op≠2∨br.kids≠[] then av lN::(aF br++[bI 59]) else [])++(bI 125::m):=⟨_,rfl⟩
 rw[←hq2] at s5;have hnd:∃ r,opt last je (rule last 16 0) (.mk 1 0 [] 0 0 []) r5 = .ok nd.un r∧dK r q2:=by
  by_cases h0:nd.op≠1∨nd.kids≠[]
  ·rw[if_pos h0] at s5;exact xZ (fun l m h=>Bu 16 nd h5 0 (by omega) l m h) s5
  ·rw[if_neg h0,List.nil_append] at s5;have h0':=zY h5 (.inl rfl) (by simpa using fun e=>h0 (.inl e)) (by simpa using fun e=>h0 (.inr e));refine ⟨r5,?_,s5⟩;rw[h0'];refine jU (m:=q2) ?_ s5;rw[hq2]
   split
   ·exact nC (y:=lN) rfl (by decide)
   ·exact iP (j:=3) rfl (by decide)
 obtain ⟨r6,e6,s6⟩:=hnd;rw[hq2] at s6;have hbr:∃ r,opt last lN (rule last 16 0) (.mk 2 0 [] 0 0 []) r6 = .ok br.un r∧dK r (bI 125::m):=by
  by_cases h0:br.op≠2∨br.kids≠[]
  ·rw[if_pos h0] at s6;exact xZ (fun l m h=>Bu 16 br h6 0 (by omega) l m h) s6
  ·rw[if_neg h0,List.nil_append] at s6;have h0':=zY h6 (.inr rfl) (by simpa using fun e=>h0 (.inl e)) (by simpa using fun e=>h0 (.inr e));refine ⟨r6,?_,s6⟩;rw[h0'];exact jU (iP (j:=3) rfl (by decide)) s6
 obtain ⟨r7,e7,s7⟩:=hbr;obtain ⟨r8,e8,s8⟩:=gB (last:=last) s7;refine ⟨r8,?_,s8⟩;rw[uy,e1,aD,e2,aD,e3,aD,e4];simp only;rw[e5,aD,e6,aD,e7,aD,e8,aD];rfl
theorem OD {x:Pair} (h:gW x=true) (hs:dK l ((pairT x).tail++m)):∃ r,same last l = .ok x.un r∧dK r m:=by
 unfold gW at h;rw[Bool.and_eq_true] at h;have s0:dK l (fO x.a x.x++(bI 61::(fO x.b x.y++(bI 59::m)))):=by unfold pairT at hs;simpa using hs
 obtain ⟨r1,e1,s1⟩:=rU (last:=last) h.1 s0;obtain ⟨r2,e2,s2⟩:=gB (last:=last) s1;obtain ⟨r3,e3,s3⟩:=rU (last:=last) h.2 s2;obtain ⟨r4,e4,s4⟩:=gB (last:=last) s3;refine ⟨r4,?_,s4⟩;unfold same;rw[e1,aD,e2,aD,e3,aD,e4,aD];rfl
theorem vB {w:List UInt8} {x:Cls} (h:fT x=true) (hs:dK l ((fu w x).tail++m)):∃ r,standing last l = .ok x r∧dK r m:=by
 unfold fT at h;simp only[Bool.and_eq_true,bM] at h;have s0:dK l (av x.name::aW x.gD::av fD::(bO x.mean++(bI 59::m))):=by unfold fu at hs;simpa using hs
 obtain ⟨r1,e1,s1⟩:=qI (last:=last) s0;obtain ⟨r2,e2,s2⟩:=dR (last:=last) (lo:=0) (hi:=10000) h.1.2.1 h.1.2.2 s1;obtain ⟨r3,e3,s3⟩:=Bt (last:=last) s2;obtain ⟨r4,e4,s4⟩:=xY (last:=last) h.2 s3;obtain ⟨r5,e5,s5⟩:=gB (last:=last) s4;refine ⟨r5,?_,s5⟩;unfold standing;rw[e1,aD,e2,aD,e3,aD,e4,aD,e5,aD]
theorem Sd {x:tL} (h:jo x=true) (hs:dK l ((jy x).tail++m)):∃ r,Ar last l = .ok x r∧dK r m:=by
 unfold jo at h;simp only[Bool.and_eq_true,bM] at h;have s0:dK l (av x.name::aW x.aU::bI 59::m):=by unfold jy at hs;simpa using hs
 obtain ⟨r1,e1,s1⟩:=qI (last:=last) s0;obtain ⟨r2,e2,s2⟩:=dR (last:=last) (lo:=0) (hi:=10000) h.2.1 h.2.2 s1;obtain ⟨r3,e3,s3⟩:=gB (last:=last) s2;refine ⟨r3,?_,s3⟩;unfold Ar;rw[e1,aD,e2,aD,e3,aD]
theorem I9 {x:Clause} (h:dL x=true) (hs:dK l ((dI x).tail++m)):∃ r,clause last l = .ok x r∧dK r m:=by
 unfold dL at h;simp only[Bool.and_eq_true,bM] at h;obtain ⟨⟨⟨h1,h2⟩,h3⟩,h4⟩:=h;obtain ⟨k,w,a,u⟩:=x;simp only at h1 h2 h3 h4;have s0:dK l (av (kindWords.getD (k - 1).toNat [])::av (whenWords.getD w.toNat [])::av (actionWords.getD (a - 1).toNat [])::av nL::aW u::bI 59::m):=by unfold dI at hs;simpa using hs
 have f1:oW kindWords (av (kindWords.getD (k - 1).toNat []))=some (k - 1).toNat:=by
  have:k=1∨k=2∨k=3∨k=4∨k=5:=by omega
  rcases this with rfl | rfl | rfl | rfl | rfl <;> decide
 have f2:oW whenWords (av (whenWords.getD w.toNat []))=some w.toNat:=by
  have:w=0∨w=1∨w=2:=by omega
  rcases this with rfl | rfl | rfl <;> decide
 have f3:oW actionWords (av (actionWords.getD (a - 1).toNat []))=some (a - 1).toNat:=by
  have:a=1∨a=2∨a=3:=by omega
  rcases this with rfl | rfl | rfl <;> decide
 obtain ⟨r1,e1,s1⟩:=tF (last:=last) f1 s0;obtain ⟨r2,e2,s2⟩:=tF (last:=last) f2 s1;obtain ⟨r3,e3,s3⟩:=tF (last:=last) f3 s2;obtain ⟨r4,e4,s4⟩:=Bt (last:=last) s3;obtain ⟨r5,e5,s5⟩:=dR (last:=last) (lo:=0) (hi:=12) h4.1 h4.2 s4;obtain ⟨r6,e6,s6⟩:=gB (last:=last) s5;refine ⟨r6,?_,s6⟩;unfold clause;rw[e1,aD,e2,aD,e3,aD,e4,aD,e5,aD,e6,aD,show (((k - 1).toNat:Nat):Int)+1=k by omega,show ((w.toNat:Nat):Int)=w by omega,show (((a - 1).toNat:Nat):Int)+1=a by omega]
theorem Gl:∀ (ps acc:List (List UInt8 × Int)) (n:Nat) (l m:List Tok),ps≠[]→(∀ p∈ps,bQ p.1 p.2=true)→l.length+1≤n→hit 3 [44] m=false→dK l (dF ps++m)→
  ∃ r,refs last n acc l = .ok (acc++ps.map fun p=>(p.1,jM p.1 p.2)) r∧dK r m
 | ps,acc,0,l,m,_,_,hn,_,_=>by omega
 | [],_,_,_,_,h,_,_,_,_=>absurd rfl h
 | [p],acc,n+1,l,m,_,hp,hn,hm,hs=>by
  obtain ⟨r1,e1,s1⟩:=rU (last:=last) (hp p (by simp)) hs;refine ⟨r1,?_,s1⟩;rw[refs,e1,aD,lY s1,hm,if_neg (by simp)];rfl
 | p::q::ps,acc,n+1,l,m,_,hp,hn,hm,hs=>by
  have s0:dK l (fO p.1 p.2++(bI 44::(dF (q::ps)++m))):=by rw [dF] at hs;simpa using hs
  obtain ⟨r1,e1,s1⟩:=rU (last:=last) (hp p (by simp)) s0;obtain ⟨u,s,rfl,⟨a1,a2,_⟩,s2⟩:=s1.sg2;have n1:=s0.length;have n2:=s1.length;simp at n1 n2;obtain ⟨r2,e2,s3⟩:=Gl (q::ps) (acc++[(p.1,jM p.1 p.2)]) n s m (by simp) (fun x hx=>hp x (by simp [List.mem_cons.1 hx])) (by omega) hm s2;refine ⟨r2,?_,s3⟩;rw[refs,e1,aD,if_pos (nX a1 a2),List.tail_cons,e2];simp
theorem Dm (a:List (List UInt8)) (b:List Int) (h:a.length=b.length):(a.zip b).map (fun p=>((p.1,jM p.1 p.2):List UInt8 × Int).1)=a:=by
 have:(fun p:List UInt8 × Int=>((p.1,jM p.1 p.2):List UInt8 × Int).1)=Prod.fst:=rfl;rw[this];exact List.map_fst_zip (by omega)
theorem OE {x:iK} (h:fG x=true) (hs:dK l ((gL x).tail++m)):∃ r,take last l = .ok x.un r∧dK r m:=by
 unfold fG at h;simp only[Bool.and_eq_true,bM,beq_iff_eq,Bool.not_eq_true',List.isEmpty_eq_false_iff,List.all_eq_true] at h;obtain ⟨⟨⟨⟨⟨h1,h2⟩,h3⟩,h4⟩,h5⟩,h6⟩:=h;obtain ⟨nm,cr,g,hm,ns,fs⟩:=x;simp only at h1 h2 h3 h4 h5 h6;have s0:dK l (av nm::aW cr::av ku::(dF (ns.zip fs)++((if g≠1 then [av vX,aW g] else [])++((if hm=true then [av dV] else [])++(bI 59::m))))):=by unfold gL at hs;simpa using hs
 obtain ⟨q1,hq1⟩:∃ q,q=(if hm=true then [av dV] else [])++(bI 59::m):=⟨_,rfl⟩
 rw[←hq1] at s0;obtain ⟨r1,e1,s1⟩:=qI (last:=last) s0;obtain ⟨r2,e2,s2⟩:=dR (last:=last) (lo:=1) (hi:=10000) h2.1 h2.2 s1;obtain ⟨r3,e3,s3⟩:=Bt (last:=last) s2;obtain ⟨r4,e4,s4⟩:=Gl (last:=last) (ns.zip fs) [] r3.length.succ r3 _ (by
   intro e;have e1:=congrArg List.length e;rw[List.length_zip,List.length_nil] at e1;have e2:0 < ns.length:=List.length_pos_iff.2 h4;omega) (fun p hp=>h6 p hp) (Nat.le_refl _) (by
   split
   ·exact iP (j:=1) rfl (by decide)
   ·rw[hq1]
    split
    ·exact iP (j:=1) rfl (by decide)
    ·exact nC (y:=[59]) rfl (by decide)) s3
 have hg:∃ r,(if hit 1 vX r4 then number last 0 12 r4.tail else .ok 1 r4) = .ok g r∧dK r q1:=by
  by_cases h0:g=1
  ·rw[if_neg (by omega),List.nil_append] at s4;refine ⟨r4,?_,s4⟩;have:hit 1 vX r4=false:=by
    rw[lY s4,hq1]
    split
    ·exact nC (y:=dV) rfl (by decide)
    ·exact iP (j:=3) rfl (by decide)
   rw[this,if_neg (by simp),h0]
  ·rw[if_pos h0] at s4;have s4':dK r4 (av vX::aW g::q1):=s4;obtain ⟨u,s,rfl,⟨a1,a2,_⟩,s5⟩:=s4'.name2;obtain ⟨r5,e5,s6⟩:=dR (last:=last) (lo:=0) (hi:=12) h3.1 h3.2 s5;exact ⟨r5,by rw [if_pos (nX a1 a2),List.tail_cons,e5],s6⟩
 obtain ⟨r5,e5,s5⟩:=hg;have hh:∃ r,hit 1 dV r5=hm∧(if hit 1 dV r5 then r5.tail else r5)=r∧dK r (bI 59::m):=by
  rw[hq1] at s5;cases hm with
  | true=>
   have Xq:dK r5 (av dV::bI 59::m):=s5;obtain ⟨u,s,rfl,⟨a1,a2,_⟩,s6⟩:=Xq.name2;exact ⟨s,nX a1 a2,by rw [if_pos (nX a1 a2),List.tail_cons],s6⟩
  | false=>
   have Xq:dK r5 (bI 59::m):=s5;have:hit 1 dV r5=false:=by rw [lY Xq];exact iP (j:=3) rfl (by decide)
   exact ⟨r5,this,by rw [this,if_neg (by simp)],Xq⟩
 obtain ⟨r6,e6,e7,s6⟩:=hh;obtain ⟨r7,e8,s7⟩:=gB (last:=last) s6;refine ⟨r7,?_,s7⟩;unfold take;rw[e1,aD,e2,aD,e3,aD,e4,aD,e5,aD];simp only;rw[e7,e8,aD,e6];simp only[List.nil_append,List.map_map];have hz:(ns.zip fs).map ((fun x:List UInt8 × Int=>x.1) ∘ fun p=>(p.1,jM p.1 p.2))=ns:=Dm ns fs h5;rw[hz];rfl
theorem Dn:∀ (qs acc:List iK) (n:Nat) (l m:List Tok),acc.length+qs.length≤64→(∀ q∈qs,fG q=true)→l.length+1≤n→hit 1 iE m=false→dK l (qs.flatMap gL++m)→
  ∃ r,takes last n acc l = .ok (acc++qs.map iK.un) r∧dK r m
 | qs,acc,0,l,m,_,_,hn,_,_=>by omega
 | [],acc,n+1,l,m,_,_,_,hm,hs=>by
  have s0:dK l m:=by simpa using hs
  refine ⟨l,?_,s0⟩;rw[takes,lY s0,hm,if_neg (by simp)];simp
 | q::qs,acc,n+1,l,m,ha,hq,hn,hm,hs=>by
  have s0:dK l (av iE::((gL q).tail++(qs.flatMap gL++m))):=by
   have:gL q=av iE::(gL q).tail:=by unfold gL;simp
   rw[List.flatMap_cons,this] at hs;simpa using hs
  obtain ⟨u,s,rfl,⟨a1,a2,_⟩,s1⟩:=s0.name2;obtain ⟨r1,e1,s2⟩:=OE (last:=last) (hq q (by simp)) s1;have n1:=s1.length;have n2:=s2.length;simp at n1 n2 hn ha;obtain ⟨r2,e2,s3⟩:=Dn qs (acc++[q.un]) n r1 m (by simp;omega) (fun x hx=>hq x (by simp [hx])) (by omega) hm s2;refine ⟨r2,?_,s3⟩;rw[takes,if_pos (nX a1 a2),if_neg (by omega),List.tail_cons,e1,aD,e2];simp
theorem Bw {x:Prog} (h:dW x=true) (hs:dK l ((eB x).tail++m)):∃ r,fE last l = .ok x.un r∧dK r m:=by
 unfold dW at h;simp only[Bool.and_eq_true,bM,decide_eq_true_eq,List.all_eq_true] at h;obtain ⟨⟨⟨⟨⟨⟨h1,h2⟩,h3⟩,h4⟩,h5⟩,h6⟩,h7⟩:=h;obtain ⟨nm,no,us,ea,me,qs⟩:=x;simp only at h1 h2 h3 h4 h5 h6 h7;obtain ⟨q3,hq3⟩:∃ q,q=qs.flatMap gL++(bI 125::m):=⟨_,rfl⟩
 obtain ⟨q2,hq2⟩:∃ q,q=(if me.num≠0 then av fD::(bO me++[bI 59]) else [])++q3:=⟨_,rfl⟩
 obtain ⟨q1,hq1⟩:∃ q,q=(if ea≠0 then av gY::([aW ea]++[bI 59]) else [])++q2:=⟨_,rfl⟩
 have s0:dK l (aW no::av nm::bI 123::((if us≠1 then av jL::([aW us]++[bI 59]) else [])++q1)):=by
  rw[hq1,hq2,hq3];unfold eB at hs;simpa using hs
 have hh3:∀ w,w≠iE→hit 1 w q3=false:=by
  intro w hw;rw[hq3];cases qs with
  | nil=>exact iP (j:=3) rfl (by decide)
  | cons q qs=>
   have:gL q=av iE::(gL q).tail:=by unfold gL;simp
   rw[List.flatMap_cons,this];exact nC (y:=iE) rfl (fun e=>hw e.symm)
 have Mr:∀ w,w≠iE→w≠fD→hit 1 w q2=false:=by
  intro w hw hw2;rw[hq2]
  split
  ·exact nC (y:=fD) rfl (fun e=>hw2 e.symm)
  ·exact hh3 w hw
 have hh1:∀ w,w≠iE→w≠fD→w≠gY→hit 1 w q1=false:=by
  intro w hw hw2 hw3;rw[hq1]
  split
  ·exact nC (y:=gY) rfl (fun e=>hw3 e.symm)
  ·exact Mr w hw hw2
 obtain ⟨r1,e1,s1⟩:=dR (last:=last) (lo:=0) (hi:=255) h1.1 h1.2 s0;obtain ⟨r2,e2,s2⟩:=qI (last:=last) s1;obtain ⟨r3,e3,s3⟩:=gB (last:=last) s2;have Vy:∃ r,opt last jL (number last 1 4) 1 r3 = .ok us r∧dK r q1:=by
  by_cases h0:us=1
  ·rw[if_neg (by omega),List.nil_append] at s3;exact ⟨r3,by rw [h0];exact jU (hh1 _ (by decide) (by decide) (by decide)) s3,s3⟩
  ·rw[if_pos h0] at s3;exact xZ (fun l m h=>dR h3.1 h3.2 h) s3
 obtain ⟨r4,e4,s4⟩:=Vy;rw[hq1] at s4;have Vz:∃ r,opt last gY (number last 0 10000) 0 r4 = .ok ea r∧dK r q2:=by
  by_cases h0:ea=0
  ·rw[if_neg (by omega),List.nil_append] at s4;exact ⟨r4,by rw [h0];exact jU (Mr _ (by decide) (by decide)) s4,s4⟩
  ·rw[if_pos h0] at s4;exact xZ (fun l m h=>dR h4.1 h4.2 h) s4
 obtain ⟨r5,e5,s5⟩:=Vz;rw[hq2] at s5;have hme:∃ r,opt last fD (ratio last) ⟨0,1⟩ r5 = .ok me r∧dK r q3:=by
  by_cases h0:me.num=0
  ·rw[if_neg (by omega),List.nil_append] at s5;have:me=⟨0,1⟩:=by
    obtain ⟨a,b⟩:=me;simp only at h0;subst h0;unfold bL.fine at h5;simp only[Bool.and_eq_true,decide_eq_true_eq] at h5;have h6:=h5.2;rw[Int.gcd_zero_left] at h6;have:b=1:=by omega
    rw[this]
   exact ⟨r5,by rw [this];exact jU (hh3 _ (by decide)) s5,s5⟩
  ·rw[if_pos h0] at s5;exact xZ (fun l m h=>xY h5 h) s5
 obtain ⟨r6,e6,s6⟩:=hme;rw[hq3] at s6;obtain ⟨r7,e7,s7⟩:=Dn (last:=last) qs [] r6.length.succ r6 (bI 125::m) (by simpa using h6) h7 (Nat.le_refl _) (iP (j:=3) rfl (by decide)) s6;obtain ⟨r8,e8,s8⟩:=gB (last:=last) s7;refine ⟨r8,?_,s8⟩;unfold fE;rw[e1,aD,e2,aD,e3,aD,e4,aD,e5,aD,e6,aD,e7,aD,e8,aD];rfl
theorem mE {β γ:Type} (w:List UInt8) (hw:ig w=true) (T:β→List Tok) (hT:∀ x,T x=av w::(T x).tail) (un:β→γ) (ok:β→Bool) (upd:dh→List γ→dh) (PN:∀ c,upd c []=c) (VU:∀ c x xs,upd (upd c [x]) xs=upd c (x::xs))
  (hd:∀ c x l m,ok x=true→dK l ((T x).tail++m)→∃ r,dx last w c l = .ok (upd c [un x]) r∧dK r m) :
  ∀ (xs:List β) (c:dh) (n:Nat) (l m:List Tok),(∀ x∈xs,ok x=true)→l.length≤n→dK l (xs.flatMap T++m)→∃ n' m',defs last n c l=defs last n' (upd c (xs.map un)) m'∧m'.length≤n'∧dK m' m
 | [],c,n,l,m,_,hn,hs=>⟨n,l,by rw [List.map_nil,PN],hn,by simpa using hs⟩
 | x::xs,c,n,l,m,hx,hn,hs=>by
  have s0:dK l (av w::((T x).tail++(xs.flatMap T++m))):=by
   rw[List.flatMap_cons,hT x] at hs;simpa using hs
  obtain ⟨u,s,rfl,⟨a1,a2,_⟩,s1⟩:=s0.name2;obtain ⟨r1,e1,s2⟩:=hd c x s _ (hx x (by simp)) s1;cases n with
  | zero=>simp at hn
  | succ n=>
   have n1:=s1.length;have n2:=s2.length;simp at n1 n2 hn;obtain ⟨n',m',e2,h2,s3⟩:=mE w hw T hT un ok upd PN VU hd xs (upd c [un x]) n r1 m (fun y hy=>hx y (by simp [hy])) (by omega) s2;refine ⟨n',m',?_,h2,s3⟩;have hdef:vJ u=some w:=by
    have QK:u.text=w:=a2;unfold vJ;rw[if_pos ⟨a1,by rw [QK];exact hw⟩,QK]
   rw[qy hdef,e1,aD,e2,VU,List.map_cons]
theorem Sg {c:dh} (h:eX c=true) (hs:dK l (gQ c)):cZ last l = .ok c.un []:=by
 unfold eX at h;simp only[Bool.and_eq_true,List.all_eq_true] at h;obtain ⟨⟨⟨⟨⟨⟨h1,h2⟩,h3⟩,h4⟩,h5⟩,h6⟩,h7⟩:=h;have s0:dK l (c.courses.flatMap bP++(c.same.flatMap pairT++(c.aS.flatMap eB++(c.classes.flatMap (fu dM)++(c.bZ.flatMap jy++(c.aJ.flatMap (fu cK)++(c.clauses.flatMap dI++[]))))))):=by
  unfold gQ at hs;simpa using hs
 unfold cZ;have dn:∀ (w:List UInt8) (c:dh) (l:List Tok),ig w=true→True:=fun _ _ _ _=>trivial;obtain ⟨n1,m1,e1,k1,s1⟩:=mE (last:=last) fJ (by decide) bP (fun x=>by unfold bP;simp) Course.un dw (fun c xs=>{ c with courses:=c.courses++xs }) (fun c=>by simp) (fun c x xs=>by simp) (fun c x l m hk hs=>by
  obtain ⟨r,e,s⟩:=I8 (last:=last) hk hs;refine ⟨r,?_,s⟩;unfold dx;rw[if_pos rfl,e,aD]) c.courses dh.none l.length l _ h1 (Nat.le_refl _) s0
 obtain ⟨n2,m2,e2,k2,s2⟩:=mE (last:=last) oh (by decide) pairT (fun x=>by unfold pairT;simp) Pair.un gW (fun c xs=>{ c with same:=c.same++xs }) (fun c=>by simp) (fun c x xs=>by simp) (fun c x l m hk hs=>by
  obtain ⟨r,e,s⟩:=OD (last:=last) hk hs;refine ⟨r,?_,s⟩;unfold dx;rw[if_neg (by decide),if_pos rfl,e,aD]) c.same _ n1 m1 _ h2 k1 s1
 obtain ⟨n3,m3,e3,k3,s3⟩:=mE (last:=last) bR (by decide) eB (fun x=>by unfold eB;simp) Prog.un dW (fun c xs=>{ c with aS:=c.aS++xs }) (fun c=>by simp) (fun c x xs=>by simp) (fun c x l m hk hs=>by
  obtain ⟨r,e,s⟩:=Bw (last:=last) hk hs;refine ⟨r,?_,s⟩;unfold dx;rw[if_neg (by decide),if_neg (by decide),if_pos rfl,e,aD]) c.aS _ n2 m2 _ h3 k2 s2
 obtain ⟨n4,m4,e4,k4,s4⟩:=mE (last:=last) dM (by decide) (fu dM) (fun x=>by unfold fu;simp) (fun x=>x) fT (fun c xs=>{ c with classes:=c.classes++xs }) (fun c=>by simp) (fun c x xs=>by simp) (fun c x l m hk hs=>by
  obtain ⟨r,e,s⟩:=vB (last:=last) hk hs;refine ⟨r,?_,s⟩;unfold dx;rw[if_neg (by decide),if_neg (by decide),if_neg (by decide),if_pos rfl,e,aD]) c.classes _ n3 m3 _ h4 k3 s3
 obtain ⟨n5,m5,e5,k5,s5⟩:=mE (last:=last) vG (by decide) jy (fun x=>by unfold jy;simp) (fun x=>x) jo (fun c xs=>{ c with bZ:=c.bZ++xs }) (fun c=>by simp) (fun c x xs=>by simp) (fun c x l m hk hs=>by
  obtain ⟨r,e,s⟩:=Sd (last:=last) hk hs;refine ⟨r,?_,s⟩;unfold dx;rw[if_neg (by decide),if_neg (by decide),if_neg (by decide),if_neg (by decide),if_neg (by decide),if_pos rfl,e,aD]) c.bZ _ n4 m4 _ h5 k4 s4
 obtain ⟨n6,m6,e6,k6,s6⟩:=mE (last:=last) cK (by decide) (fu cK) (fun x=>by unfold fu;simp) (fun x=>x) fT (fun c xs=>{ c with aJ:=c.aJ++xs }) (fun c=>by simp) (fun c x xs=>by simp) (fun c x l m hk hs=>by
  obtain ⟨r,e,s⟩:=vB (last:=last) hk hs;refine ⟨r,?_,s⟩;unfold dx;rw[if_neg (by decide),if_neg (by decide),if_neg (by decide),if_neg (by decide),if_pos rfl,e,aD]) c.aJ _ n5 m5 _ h6 k5 s5
 obtain ⟨n7,m7,e7,k7,s7⟩:=mE (last:=last) om (by decide) dI (fun x=>by unfold dI;simp) (fun x=>x) dL (fun c xs=>{ c with clauses:=c.clauses++xs }) (fun c=>by simp) (fun c x xs=>by simp) (fun c x l m hk hs=>by
  obtain ⟨r,e,s⟩:=I9 (last:=last) hk hs;refine ⟨r,?_,s⟩;unfold dx;rw[if_neg (by decide),if_neg (by decide),if_neg (by decide),if_neg (by decide),if_neg (by decide),if_neg (by decide),e,aD]) c.clauses _ n6 m6 _ h7 k6 s6
 rw[e1,e2,e3,e4,e5,e6,e7,s7.nil];have hfin:∀ n c,defs last n c [] = .ok c []:=fun n c=>by cases n <;> rfl
 rw[hfin];simp[dh.none,dh.un]
end Go.Proofs.YtjonaidancomgaaGreatDoor.Sx
namespace Go.Proofs.YtjonaidancomgaaGreatDoor
open Go.RowKit
set_option maxRecDepth 20000 in
set_option maxHeartbeats 4000000 in
theorem Le (g N:Nat) (hN:N≤g) (nm:List UInt8) (no cr rp:Int) (LW:rp=0∨rp=1∨rp=2) (ar:Sx.Rule) (a0 a1:Int) (a2:ByteArray) (a3 a4:Int) (aA:Option Addr) (am ac:Nat) (br:Sx.Rule) (b0 b1:Int) (b2:ByteArray) (b3 b4:Int) (bA:Option Addr) (bm bc:Nat) (w:World) (he:d9 N w) (qa:Bool) (hqa:qa=((a0 != 1) || decide (0 < am))) (ta:List Lx.Tok) (ha:qa=false∧ta = []∨qa=true∧eD g w ar [.int .i64 a0,.int .i64 a1,.string a2,.int .i64 a3,.int .i64 a4,.slice aA am ac]∧ta=Sx.av Sx.je::(Sx.aF ar++[Sx.bI 59])) (qb:Bool) (W9:qb=((b0 != 2) || decide (0 < bm))) (tb:List Lx.Tok) (hb:qb=false∧tb = []∨qb=true∧eD g w br [.int .i64 b0,.int .i64 b1,.string b2,.int .i64 b3,.int .i64 b4,.slice bA bm bc]∧tb=Sx.av Sx.lN::(Sx.aF br++[Sx.bI 59])) (tr:List Lx.Tok) (htr:tr=if rp≠0 then [Sx.av (Sx.repeatWords.getD rp.toNat [])] else []) (l:List Lx.Tok) (h:iq g l w)
  (hlen:l.length+([Sx.av Sx.fJ,Sx.aW no,Sx.av nm,Sx.aW cr]++(tr++([Sx.bI 123]++(ta++(tb++[Sx.bI 125]))))).length≤60000) :
  Calls Tryz.prog 49 #[.pointer (some ⟨g,0,none⟩),.agg #[.string (Lx.bs nm),.int .i64 no,.int .i64 cr,.int .i64 rp,.int .i64 a0,.int .i64 a1,.string a2,.int .i64 a3,.int .i64 a4,.slice aA am ac,.int .i64 b0,.int .i64 b1,.string b2,.int .i64 b3,.int .i64 b4,.slice bA bm bc]] w (jh g l ([Sx.av Sx.fJ,Sx.aW no,Sx.av nm,Sx.aW cr]++(tr++([Sx.bI 123]++(ta++(tb++[Sx.bI 125]))))) w):=by
 have vQ:=h.lt;have Hlen:=Lh hlen;obtain ⟨W,hW⟩:∃ W,W=w.alloc (.cells #[.string (Lx.bs nm),.int .i64 no,.int .i64 cr,.int .i64 rp,.int .i64 a0,.int .i64 a1,.string a2,.int .i64 a3,.int .i64 a4,.slice aA am ac,.int .i64 b0,.int .i64 b1,.string b2,.int .i64 b3,.int .i64 b4,.slice bA bm bc] 58):=⟨_,rfl⟩
 have hbw:Below w.heap.size w W:=by rw [hW];exact (Below.refl _ _).alloc (Nat.le_refl _) _
 have hbx:aC W w.heap.size 58 #[.string (Lx.bs nm),.int .i64 no,.int .i64 cr,.int .i64 rp,.int .i64 a0,.int .i64 a1,.string a2,.int .i64 a3,.int .i64 a4,.slice aA am ac,.int .i64 b0,.int .i64 b1,.string b2,.int .i64 b3,.int .i64 b4,.slice bA bm bc]:=by rw [hW];exact aC.new _ _ _
 have hpi:PI g l W W:=PI.start (h.next hbw);have HA:Hid (qa=false∧ta = []∨qa=true∧eD g W ar [.int .i64 a0,.int .i64 a1,.string a2,.int .i64 a3,.int .i64 a4,.slice aA am ac]∧ta=Sx.av Sx.je::(Sx.aF ar++[Sx.bI 59])):=Lh (ha.imp id fun ⟨q,s,e⟩=>⟨q,s.later (hbw.mono (by omega)),e⟩);have HB:Hid (qb=false∧tb = []∨qb=true∧eD g W br [.int .i64 b0,.int .i64 b1,.string b2,.int .i64 b3,.int .i64 b4,.slice bA bm bc]∧tb=Sx.av Sx.lN::(Sx.aF br++[Sx.bI 59])):=Lh (hb.imp id fun ⟨q,s,e⟩=>⟨q,s.later (hbw.mono (by omega)),e⟩);have hw3:Sx.repeatWords.length=3:=rfl
 have hg:∀ (i:Nat) (x:List UInt8),Sx.repeatWords[i]?=some x→∀ W',Below g W W'→∃ b o c,W'.cell? ⟨4,0,none⟩=some (.slice (some ⟨b,o,none⟩) 3 c)∧W'.cell? ⟨b,o+i,none⟩=some (.string (Lx.bs x))∧4 < W'.heap.size∧b < W'.heap.size:=fun i x hx W' hb'=>by
  have mQ:=(he.next hbw).keep (hb'.mono hN);exact gN (i:=i) (x:=x) mQ.rep hx mQ.size
 have Hg:=Lh hg;have H:=Lh hpi;have gy:=Lh hbw;have kJ:=Lh hbx;have Hqa:=Lh hqa;have Hqb:=Lh W9;have Htr:=Lh htr;have Hrp:=Lh LW;have hWs:W.heap.size=w.heap.size+1:=by rw [hW];simp
 clear h he hpi hbw hbx ha hb hqa W9 htr LW hlen hg hw3;go_enter Tryz.func49,Tryz.ntmps49;go_wp2_with fail;rw[←hW];refine (H.out.put [.name Sx.fJ,.num no,.name nm,.num cr] (ts:=[Sx.av Sx.fJ,Sx.aW no,Sx.av nm,Sx.aW cr]) hWs.symm rfl rfl rfl (by simp) (by have:=Hlen.out;simp at this ⊢;omega) (by simp)).mono ?_;rintro e w1 ⟨rfl,h⟩;have H1:=Lh h;obtain ⟨x0,x1,x2,x3,x4,x5,x6,x7,x8,x9,x10,kG,kH,kI,mI,lS,zz⟩:=fM (H1.out.blk kJ.out (by decide) (by decide));clear h;go_upto_if 19 with fail
 go_cut [0,3] from 20 (fun v0 v3 wx=>v0 = .pointer (some ⟨g,0,none⟩)∧v3 = .pointer (some ⟨w.heap.size,0,none⟩)∧Hid (PI g (l++[Sx.av Sx.fJ,Sx.aW no,Sx.av nm,Sx.aW cr]++tr) W wx))
 case first=>
  rcases Hrp.out with rfl | rfl | rfl
  ·go_wp2_with fail
   go_meet
   exact ⟨rfl,rfl,Lh (by have:=Htr.out;rw[if_neg (by decide)] at this;rw[this];simpa using H1.out)⟩
  ·obtain ⟨wb,wo,wc,gl,wl,Mj,Mk⟩:=Hg.out 1 Sx.Cc rfl w1 H1.out.aY;have Ht:Hid (tr = [Sx.av Sx.Cc]):=Lh (by have:=Htr.out;rw[if_pos (by decide)] at this;exact this);go_wp2_with fail;refine (H1.out.put [.name Sx.Cc] (ts:=[Sx.av Sx.Cc]) rfl rfl rfl rfl (by simp) (by have:=Hlen.out;rw[Ht.out] at this;simp at this ⊢;omega) (by simp)).mono ?_;rintro e w2 ⟨rfl,h⟩;have H2:=Lh h;clear h;go_wp2_with fail
   go_meet
   exact ⟨rfl,rfl,Lh (by rw [Ht.out];exact H2.out)⟩
  ·obtain ⟨wb,wo,wc,gl,wl,Mj,Mk⟩:=Hg.out 2 Sx.Ce rfl w1 H1.out.aY;have Ht:Hid (tr = [Sx.av Sx.Ce]):=Lh (by have:=Htr.out;rw[if_pos (by decide)] at this;exact this);go_wp2_with fail;refine (H1.out.put [.name Sx.Ce] (ts:=[Sx.av Sx.Ce]) rfl rfl rfl rfl (by simp) (by have:=Hlen.out;rw[Ht.out] at this;simp at this ⊢;omega) (by simp)).mono ?_;rintro e w2 ⟨rfl,h⟩;have H2:=Lh h;clear h;go_wp2_with fail
   go_meet
   exact ⟨rfl,rfl,Lh (by rw [Ht.out];exact H2.out)⟩
 case rest=>
  clear x0 x1 x2 x3 x4 x5 x6 x7 x8 x9 x10 kG kH kI mI lS;obtain ⟨rfl,rfl,H2⟩:=hcut;obtain ⟨x0,x1,x2,x3,x4,x5,x6,x7,x8,x9,x10,kG,kH,kI,mI,lS,zz⟩:=fM (H2.out.blk kJ.out (by decide) (by decide));go_wp2_with fail;refine (H2.out.put [.sign [123]] (ts:=[Sx.bI 123]) rfl rfl rfl rfl (by simp) (by have:=Hlen.out;simp at this ⊢;omega) (by simp)).mono ?_;rintro e w3 ⟨rfl,h⟩;have H3:=Lh h;obtain ⟨x0,x1,x2,x3,x4,x5,x6,x7,x8,x9,x10,kG,kH,kI,mI,lS,zz⟩:=fM (H3.out.blk kJ.out (by decide) (by decide));clear h;go_upto_region 5 with fail
  go_cut [0,3,44] from 34 (fun v0 v3 v wx=>v0 = .pointer (some ⟨g,0,none⟩)∧v3 = .pointer (some ⟨w.heap.size,0,none⟩)∧v = .bool qa∧wx=w3)
  case first=>
   cases hb1:(a0 != 1) with
   | true=>
    go_wp2_with fail
    go_meet
    exact ⟨rfl,rfl,by rw [Hqa.out,hb1];rfl,rfl⟩
   | false=>
    go_wp2_with fail
    go_meet
    exact ⟨rfl,rfl,by rw [Hqa.out,hb1];simp,rfl⟩
  case rest=>
   obtain ⟨rfl,rfl,rfl,rfl⟩:=hcut;go_upto_if 44 with fail;go_cut [0,3] from 45 (fun v0 v3 wx=>v0 = .pointer (some ⟨g,0,none⟩)∧v3 = .pointer (some ⟨w.heap.size,0,none⟩)∧Hid (PI g (l++[Sx.av Sx.fJ,Sx.aW no,Sx.av nm,Sx.aW cr]++tr++[Sx.bI 123]++ta) W wx))
   case first=>
    rcases HA.out with ⟨rfl,ht⟩ | ⟨rfl,hs,ht⟩
    ·have Ht:=Lh ht;clear ht;go_wp2_with fail
     go_meet
     exact ⟨rfl,rfl,Lh (by rw [Ht.out];simpa using H3.out)⟩
    ·have Ht:=Lh ht;have Hs:=Lh hs;clear ht hs;go_wp2_with fail;refine (H3.out.put [.name Sx.je,.rule ar [.int .i64 a0,.int .i64 a1,.string a2,.int .i64 a3,.int .i64 a4,.slice aA am ac],.sign [59]] (ts:=Sx.av Sx.je::(Sx.aF ar++[Sx.bI 59])) rfl rfl rfl (by simp [dN.toks,Sx.av,Sx.bI]) (by simp) (by have:=Hlen.out;rw[Ht.out] at this;simp at this ⊢;omega) (fun r c hr=>by simp only [List.mem_cons,dN.rule.injEq,List.not_mem_nil,or_false,false_or,reduceCtorEq] at hr;rw[hr.1,hr.2];exact Hs.out)).mono ?_;rintro e w4 ⟨rfl,h⟩;have H4:=Lh h;clear h;go_wp2_with fail
     go_meet
     exact ⟨rfl,rfl,Lh (by rw [Ht.out];exact H4.out)⟩
   case rest=>
    clear x0 x1 x2 x3 x4 x5 x6 x7 x8 x9 x10 kG kH kI mI lS;obtain ⟨rfl,rfl,H4⟩:=hcut;obtain ⟨x0,x1,x2,x3,x4,x5,x6,x7,x8,x9,x10,kG,kH,kI,mI,lS,zz⟩:=fM (H4.out.blk kJ.out (by decide) (by decide));go_upto_region 7 with fail;go_cut [0,3,63] from 53 (fun v0 v3 v wx=>v0 = .pointer (some ⟨g,0,none⟩)∧v3 = .pointer (some ⟨w.heap.size,0,none⟩)∧v = .bool qb∧wx=wc)
    case first=>
     cases hb1:(b0 != 2) with
     | true=>
      go_wp2_with fail
      go_meet
      exact ⟨rfl,rfl,by rw [Hqb.out,hb1];rfl,rfl⟩
     | false=>
      go_wp2_with fail
      go_meet
      exact ⟨rfl,rfl,by rw [Hqb.out,hb1];simp,rfl⟩
    case rest=>
     obtain ⟨rfl,rfl,rfl,rfl⟩:=hcut;go_upto_if 63 with fail;go_cut [0,3] from 64 (fun v0 v3 wx=>v0 = .pointer (some ⟨g,0,none⟩)∧v3 = .pointer (some ⟨w.heap.size,0,none⟩)∧Hid (PI g (l++[Sx.av Sx.fJ,Sx.aW no,Sx.av nm,Sx.aW cr]++tr++[Sx.bI 123]++ta++tb) W wx))
     case first=>
      rcases HB.out with ⟨rfl,ht⟩ | ⟨rfl,hs,ht⟩
      ·have Ht:=Lh ht;clear ht;go_wp2_with fail
       go_meet
       exact ⟨rfl,rfl,Lh (by rw [Ht.out];simpa using H4.out)⟩
      ·have Ht:=Lh ht;have Hs:=Lh hs;clear ht hs;go_wp2_with fail;refine (H4.out.put [.name Sx.lN,.rule br [.int .i64 b0,.int .i64 b1,.string b2,.int .i64 b3,.int .i64 b4,.slice bA bm bc],.sign [59]] (ts:=Sx.av Sx.lN::(Sx.aF br++[Sx.bI 59])) rfl rfl rfl (by simp [dN.toks,Sx.av,Sx.bI]) (by simp) (by have:=Hlen.out;rw[Ht.out] at this;simp at this ⊢;omega) (fun r c hr=>by simp only [List.mem_cons,dN.rule.injEq,List.not_mem_nil,or_false,false_or,reduceCtorEq] at hr;rw[hr.1,hr.2];exact Hs.out)).mono ?_;rintro e w5 ⟨rfl,h⟩;have H5:=Lh h;clear h;go_wp2_with fail
       go_meet
       exact ⟨rfl,rfl,Lh (by rw [Ht.out];exact H5.out)⟩
     case rest=>
      clear x0 x1 x2 x3 x4 x5 x6 x7 x8 x9 x10 kG kH kI mI lS;obtain ⟨rfl,rfl,H5⟩:=hcut;obtain ⟨x0,x1,x2,x3,x4,x5,x6,x7,x8,x9,x10,kG,kH,kI,mI,lS,zz⟩:=fM (H5.out.blk kJ.out (by decide) (by decide));go_wp2_with fail;refine (H5.out.put [.sign [125]] (ts:=[Sx.bI 125]) rfl rfl rfl rfl (by simp) (by have:=Hlen.out;simp at this ⊢;omega) (by simp)).mono ?_;rintro e w6 ⟨rfl,h⟩;have H6:=Lh h;clear h;go_wp2_with fail
      go_end0
      exact ⟨rfl,by have:=H6.out.st;simpa using this,(gy.out.mono (by omega)).trans H6.out.aY,(KP.below gy.out).trans H6.out.kp⟩
theorem qn {g:Nat} {w:World} {r:Sx.Rule} {cs:List Value} {x:List UInt8} (o:Int) (hs:eD g w r cs) {q:Bool} (hq:q=((r.op != o) || decide (0 < r.kids.length))) :
  q=false∧(if r.op≠o∨r.kids≠[] then Sx.av x::(Sx.aF r++[Sx.bI 59]) else []) = []∨q=true∧eD g w r cs∧(if r.op≠o∨r.kids≠[] then Sx.av x::(Sx.aF r++[Sx.bI 59]) else [])=Sx.av x::(Sx.aF r++[Sx.bI 59]):=by
 by_cases h:r.op≠o∨r.kids≠[]
 ·refine .inr ⟨?_,hs,if_pos h⟩;rw[hq,Bool.or_eq_true];exact h.imp (fun h=>by simpa using h) (fun h=>by have:=List.length_pos_iff.2 h;simpa using this)
 ·refine .inl ⟨?_,if_neg h⟩;have a:r.op=o:=Classical.not_not.1 fun k=>h (.inl k);have b:r.kids = []:=Classical.not_not.1 fun k=>h (.inr k);rw[hq,a,b];simp
theorem IV (g N:Nat) (hN:N≤g) (x:Sx.Course) (hx:Sx.dw x=true) (cs:List Value) (w:World) (he:d9 N w) (hat:aV w (fun b=>b < g) x cs) (l:List Lx.Tok) (W:World) (hst:iq g l W) (hb:Below g w W) (hl:l.length+(Sx.bP x).length≤60000) :
  Calls Tryz.prog 49 #[.pointer (some ⟨g,0,none⟩),.agg cs.toArray] W (jh g l (Sx.bP x) W):=by
 have mQ:=he.keep (hb.mono hN);replace hat:=aV.keep (ji hb) hat;obtain ⟨nm,no,cr,rp,⟨o1,c1,n1,x1,d1,k1⟩,⟨o2,c2,n2,x2,d2,k2⟩⟩:=x;obtain ⟨cn,cb,rfl,hn,h1,h2⟩:=hat;unfold Sx.dw at hx;simp only[Bool.and_eq_true,Sx.bM] at hx;obtain ⟨⟨⟨⟨⟨_,_⟩,_⟩,hr⟩,q1⟩,q2⟩:=hx;have sa:=wz g N hN 16 _ q1 cn W mQ h1;have sb:=wz g N hN 16 _ q2 cb W mQ h2;rw[aB] at h1 h2;obtain ⟨A1,e1,rfl,-,-,-⟩:=h1;obtain ⟨A2,e2,rfl,-,-,-⟩:=h2
 have e:Sx.bP ⟨nm,no,cr,rp,.mk o1 c1 n1 x1 d1 k1,.mk o2 c2 n2 x2 d2 k2⟩ = [Sx.av Sx.fJ,Sx.aW no,Sx.av nm,Sx.aW cr]++((if rp≠0 then [Sx.av (Sx.repeatWords.getD rp.toNat [])] else [])++([Sx.bI 123]++((if (Sx.Rule.mk o1 c1 n1 x1 d1 k1).op≠1∨(Sx.Rule.mk o1 c1 n1 x1 d1 k1).kids≠[] then Sx.av Sx.je::(Sx.aF (.mk o1 c1 n1 x1 d1 k1)++[Sx.bI 59]) else [])++((if (Sx.Rule.mk o2 c2 n2 x2 d2 k2).op≠2∨(Sx.Rule.mk o2 c2 n2 x2 d2 k2).kids≠[] then Sx.av Sx.lN::(Sx.aF (.mk o2 c2 n2 x2 d2 k2)++[Sx.bI 59]) else [])++[Sx.bI 125])))):=by
  simp[Sx.bP]
 rw[e] at hl ⊢;exact Le g N hN nm no cr rp (by omega) _ o1 c1 (Lx.bs n1) x1 d1 A1 k1.length e1 _ o2 c2 (Lx.bs n2) x2 d2 A2 k2.length e2 W mQ _ rfl _ (qn 1 sa rfl) _ rfl _ (qn 2 sb rfl) _ rfl l hst hl
end Go.Proofs.YtjonaidancomgaaGreatDoor
