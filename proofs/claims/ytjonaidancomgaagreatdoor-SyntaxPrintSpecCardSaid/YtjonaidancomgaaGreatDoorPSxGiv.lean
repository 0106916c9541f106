/- Parts of the proof, joined into one text: q1s, q2k. -/
import Derived.Test.YtjonaidancomgaaGreatDoorPSxRdB
import Derived.Test.YtjonaidancomgaaGreatDoorPLxPlain
namespace Go.Proofs.YtjonaidancomgaaGreatDoor.Sx
open Lx (Tok)
def Vs (l:List Tok):Prop:=∀ t∈l,Lx.valid t=true
theorem Vs.tail {l:List Tok} (h:Vs l):Vs l.tail:=fun t ht=>h t (List.mem_of_mem_tail ht)
section
variable {last : Int} {l r : List Tok}
theorem FW {k:Int} {x:List UInt8} {y:Unit} (h:need last k x l = .ok y r) (hv:Vs l):Vs r:=by
 unfold need at h
 split at h
 ·injection h with _ h;subst h;exact hv.tail
 ·unfold fail at h;cases h
theorem eH {c:UInt8} {y:Unit} (h:sign last c l = .ok y r) (hv:Vs l):Vs r:=FW h hv
theorem wh {x:List UInt8} {y:Unit} (h:word last x l = .ok y r) (hv:Vs l):Vs r:=FW h hv
theorem jJ {x:List UInt8} (h:name last l = .ok x r) (hv:Vs l):Lx.isName x=true∧Vs r:=by
 unfold name at h
 split at h
 ·rename_i t s
  split at h
  ·rename_i hk;injection h with h1 h2;subst h1;subst h2;have:=hv t (by simp);unfold Lx.valid at this;rw[if_pos hk,Bool.and_eq_true] at this;exact ⟨this.1,fun q hq=>hv q (by simp [hq])⟩
  ·unfold fail at h;cases h
 ·unfold fail at h;cases h
theorem bV {lo hi n:Int} (h:number last lo hi l = .ok n r) (hv:Vs l):(lo≤n∧n≤hi)∧Vs r:=by
 unfold number at h
 split at h
 ·split at h
  ·rename_i hk;injection h with h1 h2;subst h1;subst h2;exact ⟨hk.2,fun q hq=>hv q (by simp [hq])⟩
  ·unfold fail at h;cases h
 ·unfold fail at h;cases h
theorem zL {s:List UInt8} (h:Lx.isName s=true):s.isEmpty=false:=by
 cases s with
 | nil=>cases h
 | cons=>rfl
theorem pq {p:List UInt8 × Int} (h:ref last l = .ok p r) (hv:Vs l):(bQ p.1 p.2=true∧jM p.1 p.2=p.2)∧Vs r:=by
 unfold ref at h
 split at h
 ·obtain ⟨n,l1,h1,h2⟩:=bind_ok h;obtain ⟨hn,hv1⟩:=bV h1 hv.tail;injection h2 with h2 h3;subst h2;subst h3;refine ⟨⟨?_,rfl⟩,hv1⟩;unfold bQ;rw[bM.2 hn];rfl
 ·obtain ⟨s,l1,h1,h2⟩:=bind_ok h;obtain ⟨hn,hv1⟩:=jJ h1 hv;injection h2 with h2 h3;subst h2;subst h3;refine ⟨⟨?_,?_⟩,hv1⟩
  ·unfold bQ;simp only;rw[hn,bM.2 (by decide)];simp
  ·unfold jM;simp only;rw[zL hn];rfl
theorem CP {n d:Int} (h0:0≤n) (h1:max 1 ((n+11) / 12)≤d) (h2:d≤1000):(lowest n d).fine=true:=by
 unfold lowest bL.fine;simp only[Bool.and_eq_true,decide_eq_true_eq];have hd:1≤d:=by omega
 have hn:n≤12*d:=by omega
 have hg:0 < Int.gcd n d:=by
  rcases Nat.eq_zero_or_pos (Int.gcd n d) with h | h
  ·rw[Int.gcd_eq_zero_iff] at h;omega
  ·exact h
 obtain ⟨a,ha⟩:=Int.gcd_dvd_left n d;obtain ⟨b,hb⟩:=Int.gcd_dvd_right n d;have hgz:(0:Int) < (Int.gcd n d:Nat):=by omega
 have hq:Int.gcd a b=1:=by
  have h1:Int.gcd n d=(Int.gcd n d)*Int.gcd a b:=by
   have:=Int.gcd_mul_left (Int.gcd n d:Int) a b;rw[←ha,←hb] at this;simpa using this
  exact Nat.eq_of_mul_eq_mul_left hg (by rw [←h1,Nat.mul_one])
 obtain ⟨g,hgg⟩:∃ g:Int,g=(Int.gcd n d:Nat):=⟨_,rfl⟩
 rw[←hgg] at ha hb hgz ⊢;have e1:n / g=a:=by rw [ha];exact Int.mul_ediv_cancel_left a (by omega)
 have e2:d / g=b:=by rw [hb];exact Int.mul_ediv_cancel_left b (by omega)
 rw[e1,e2];clear hgg e1 e2;have b1:1≤b:=by
  rcases Int.lt_or_le b 1 with h | h
  ·have:g*b≤g*0:=Int.mul_le_mul_of_nonneg_left (by omega) (by omega);rw[Int.mul_zero] at this;omega
  ·exact h
 have b2:b≤1000:=by
  have:1*b≤g*b:=Int.mul_le_mul_of_nonneg_right (by omega) (by omega);omega
 have a0:0≤a:=by
  rcases Int.lt_or_le a 0 with h | h
  ·have:g*a≤g*(-1):=Int.mul_le_mul_of_nonneg_left (by omega) (by omega);rw[Int.mul_neg,Int.mul_one] at this;omega
  ·exact h
 have a1:a≤12*b:=by
  rcases Int.lt_or_le (12*b) a with h | h
  ·have:g*(12*b+1)≤g*a:=Int.mul_le_mul_of_nonneg_left (by omega) (by omega);have e:g*(12*b+1)=12*(g*b)+g:=by rw [Int.mul_add,Int.mul_one,Int.mul_left_comm]
   rw[e] at this;omega
  ·exact h
 exact ⟨⟨⟨⟨b1,b2⟩,a0⟩,a1⟩,hq⟩
theorem sV {x:bL} (h:ratio last l = .ok x r) (hv:Vs l):x.fine=true∧Vs r:=by
 unfold ratio at h;obtain ⟨n,l1,h1,h⟩:=bind_ok h;obtain ⟨u,l2,h2,h⟩:=bind_ok h;obtain ⟨d,l3,h3,h⟩:=bind_ok h;obtain ⟨k1,v1⟩:=bV h1 hv;obtain ⟨k3,v3⟩:=bV h3 (eH h2 v1);injection h with h4 h5;subst h4;subst h5;exact ⟨CP k1.1 k3.1 k3.2,v3⟩
theorem pE {ws:List (List UInt8)} {i:Int} (h:oneOf last ws l = .ok i r) (hv:Vs l):(0≤i∧i < ws.length)∧Vs r:=by
 unfold oneOf at h
 split at h
 ·rename_i j hj;injection h with h1 h2;subst h1;subst h2;unfold find at hj;have:=(List.findIdx?_eq_some_iff_getElem.1 hj).1;exact ⟨by omega,hv.tail⟩
 ·unfold fail at h;cases h
theorem nP {α:Type} {w:List UInt8} {f:List Tok→R α} {d x:α} {P:α→Prop} (hf:∀ l x r,f l = .ok x r→Vs l→P x∧Vs r) (hd:P d) (h:opt last w f d l = .ok x r) (hv:Vs l):P x∧Vs r:=by
 unfold opt at h
 split at h
 ·obtain ⟨y,l1,h1,h⟩:=bind_ok h;obtain ⟨u,l2,h2,h⟩:=bind_ok h;obtain ⟨k1,v1⟩:=hf _ _ _ h1 hv.tail;injection h with h3 h4;subst h3;subst h4;exact ⟨k1,eH h2 v1⟩
 ·injection h with h3 h4;subst h3;subst h4;exact ⟨hd,hv⟩
end
def jQ (k:Nat) (x:Rule):Prop:=aO k x=true∧x.un=x
theorem pF {k:Nat} : ∀ {ks:List Rule},(∀ x∈ks,jQ k x)→dU k ks=true∧dJ ks=ks
 | [],_=>⟨rfl,rfl⟩
 | x::ks,h=>by
  obtain ⟨h1,h2⟩:=pF (ks:=ks) fun y hy=>h y (by simp [hy]);rw[dU,dJ,h1,h2,(h x (by simp)).1,(h x (by simp)).2];exact ⟨rfl,rfl⟩
theorem Ba {last:Int} {f:Nat→List Tok→R Rule} {P:Rule→Prop} (hf:∀ b l x r,f b l = .ok x r→Vs l→(P x∧b≠200)∧Vs r) :
  ∀ (n:Nat) (acc:List Rule) (l:List Tok) (ks:List Rule) (r:List Tok),kids last f n acc l = .ok ks r→Vs l→acc.length≤200→(∀ x∈acc,P x)→(ks.length≤200∧∀ x∈ks,P x)∧Vs r
 | 0,acc,l,ks,r,h,hv,ha,hp=>by
  rw[kids] at h;injection h with h1 h2;subst h1;subst h2;exact ⟨⟨ha,hp⟩,hv⟩
 | n+1,acc,l,ks,r,h,hv,ha,hp=>by
  rw[kids] at h
  split at h
  ·injection h with h1 h2;subst h1;subst h2;exact ⟨⟨ha,hp⟩,hv.tail⟩
  ·obtain ⟨y,l1,h1,h⟩:=bind_ok h;obtain ⟨u,l2,h2,h⟩:=bind_ok h;obtain ⟨⟨k1,k2⟩,v1⟩:=hf _ _ _ _ h1 hv;refine Ba hf n (acc++[y]) l2 ks r h (eH h2 v1) (by simp;omega) fun x hx=>?_
   rcases List.mem_append.1 hx with hx | hx
   ·exact hp x hx
   ·rw[List.mem_singleton] at hx;subst hx;exact k1
theorem lZ {last:Int} : ∀ (k b:Nat) (l:List Tok) (x:Rule) (r:List Tok),rule last k b l = .ok x r→Vs l→(jQ k x∧b≠200)∧Vs r
 | 0,b,l,x,r,h,hv=>by
  rw[rule] at h;obtain ⟨y,l1,h1,h⟩:=bind_ok h;unfold fail at h;cases h
 | k+1,b,l,x,r,h,hv=>by
  rw[rule] at h;obtain ⟨i,l1,h1,h⟩:=bind_ok h;obtain ⟨hi,v1⟩:=pE h1 hv;have hi9:(ruleWords.length:Int)=9:=rfl;rw[hi9] at hi
  split at h
  ·unfold fail at h;cases h
  rename_i hlim;have hb:b≠200:=fun e=>hlim (.inl e)
  suffices jQ (k+1) x∧Vs r from ⟨⟨this.1,hb⟩,this.2⟩
  have ih:=fun b l x r=>lZ (last:=last) k b l x r;obtain ⟨op,hop⟩:∃ op,op=i+1:=⟨_,rfl⟩
  rw[←hop] at h;unfold cB at h
  split at h
  ·rename_i h4;subst h4;obtain ⟨q,l2,h2,h⟩:=bind_ok h;obtain ⟨⟨kg,_⟩,v2⟩:=ih _ _ _ _ h2 v1;injection h with ha hb;subst ha;subst hb;refine ⟨⟨?_,?_⟩,v2⟩
   ·rw[aO,dU,dU,kg.1];rfl
   ·rw[Rule.un,dJ,dJ,kg.2];rfl
  split at h
  ·rename_i h5;obtain ⟨p,l2,h2,h⟩:=bind_ok h;obtain ⟨n,l3,h3,h⟩:=bind_ok h;obtain ⟨kp,v2⟩:=pq h2 v1;obtain ⟨kn,v3⟩:=bV h3 v2;injection h with ha hb;subst ha;subst hb;refine ⟨⟨?_,?_⟩,v3⟩
   ·rw[aO];simp[dU,kp.1,bM.2 kn]
   ·rw[Rule.un,dJ,kp.2]
  split at h
  ·rename_i h6;obtain ⟨p,l2,h2,h⟩:=bind_ok h;obtain ⟨n,l3,h3,h⟩:=bind_ok h;obtain ⟨kp,v2⟩:=pq h2 v1;obtain ⟨kn,v3⟩:=bV h3 v2;injection h with ha hb;subst ha;subst hb;refine ⟨⟨?_,?_⟩,v3⟩
   ·rw[aO];simp[dU,kp.1,bM.2 kn]
   ·rw[Rule.un,dJ,kp.2]
  split at h
  ·obtain ⟨n,l3,h3,h⟩:=bind_ok h;obtain ⟨kn,v3⟩:=bV h3 v1;injection h with ha hb;subst ha;subst hb;refine ⟨⟨?_,?_⟩,v3⟩
   ·rw[aO];simp[dU,bM.2 kn]
   ·rw[Rule.un,dJ];rfl
  split at h
  ·obtain ⟨q,l3,h3,h⟩:=bind_ok h;obtain ⟨kq,v3⟩:=sV h3 v1;injection h with ha hb;subst ha;subst hb;refine ⟨⟨?_,?_⟩,v3⟩
   ·have e:(⟨q.num,q.den⟩:bL)=q:=rfl;rw[aO];simp[dU,e,kq]
   ·rw[Rule.un,dJ];rfl
  split at h
  ·obtain ⟨p,l2,h2,h⟩:=bind_ok h;obtain ⟨kp,v2⟩:=pq h2 v1;injection h with ha hb;subst ha;subst hb;refine ⟨⟨?_,?_⟩,v2⟩
   ·rw[aO];simp[dU,kp.1]
   ·rw[Rule.un,dJ,kp.2]
  split at h
  ·obtain ⟨n,l2,h2,h⟩:=bind_ok h;obtain ⟨u,l3,h3,h⟩:=bind_ok h;obtain ⟨ks,l4,h4,h⟩:=bind_ok h;obtain ⟨kn,v2⟩:=bV h2 v1;obtain ⟨⟨kl,kk⟩,v4⟩:=Ba (P:=jQ k) ih _ _ _ _ _ h4 (eH h3 v2) (by simp) (by simp);obtain ⟨k5,k6⟩:=pF kk;injection h with ha hb;subst ha;subst hb;refine ⟨⟨?_,?_⟩,v4⟩
   ·rw[aO];simp[k5,bM.2 kn,kl]
   ·rw[Rule.un,k6];rfl
  ·rename_i g4 g5 g6 g7 g8 g9 g3;obtain ⟨u,l3,h3,h⟩:=bind_ok h;obtain ⟨ks,l4,h4,h⟩:=bind_ok h;obtain ⟨⟨kl,kk⟩,v4⟩:=Ba (P:=jQ k) ih _ _ _ _ _ h4 (eH h3 v1) (by simp) (by simp);obtain ⟨k5,k6⟩:=pF kk;injection h with ha hb;subst ha;subst hb;have h12:op=1∨op=2:=by omega
   refine ⟨⟨?_,?_⟩,v4⟩
   ·rw[aO,if_pos h12];simp[k5,kl]
   ·rw[Rule.un,k6];rfl
section
variable {last : Int} {l r : List Tok}
theorem NY {ws:List (List UInt8)} {i:Nat} (h:find ws l=some i):i < ws.length:=by
 unfold find at h;exact (List.findIdx?_eq_some_iff_getElem.1 h).1
theorem Ik {x:Course} (h:course last l = .ok x r) (hv:Vs l):(dw x=true∧x.un=x)∧Vs r:=by
 rw[uy] at h;obtain ⟨no,l1,h1,h⟩:=bind_ok h;obtain ⟨nm,l2,h2,h⟩:=bind_ok h;obtain ⟨cr,l3,h3,h⟩:=bind_ok h;obtain ⟨k1,v1⟩:=bV h1 hv;obtain ⟨k2,v2⟩:=jJ h2 v1;obtain ⟨k3,v3⟩:=bV h3 v2;have hrep:∃ i l4,rep l3=(i,l4)∧(0≤i∧i≤2)∧Vs l4:=by
  unfold rep;cases hf:find repeatWords l3 with
  | none=>exact ⟨0,l3,rfl,by decide,v3⟩
  | some i=>
   have:=NY hf;have h3:repeatWords.length=3:=rfl;exact ⟨i,l3.tail,rfl,by omega,v3.tail⟩
 obtain ⟨i,l4,e4,k4,v4⟩:=hrep;rw[e4] at h;obtain ⟨u,l5,h5,h⟩:=bind_ok h;obtain ⟨nd,l6,h6,h⟩:=bind_ok h;obtain ⟨br,l7,h7,h⟩:=bind_ok h;obtain ⟨u',l8,h8,h⟩:=bind_ok h;obtain ⟨k6,v6⟩:=nP (P:=jQ 16) (fun l x r h hv=>⟨(lZ 16 0 l x r h hv).1.1,(lZ 16 0 l x r h hv).2⟩) ⟨by decide,rfl⟩ h6 (eH h5 v4);obtain ⟨k7,v7⟩:=nP (P:=jQ 16) (fun l x r h hv=>⟨(lZ 16 0 l x r h hv).1.1,(lZ 16 0 l x r h hv).2⟩) ⟨by decide,rfl⟩ h7 v6;injection h with ha hb;subst ha;subst hb;refine ⟨⟨?_,?_⟩,eH h8 v7⟩
 ·unfold dw;simp only;rw[bM.2 k1,k2,bM.2 k3,bM.2 k4,k6.1,k7.1];rfl
 ·unfold Course.un;simp only;rw[k6.2,k7.2]
theorem NZ {x:Pair} (h:same last l = .ok x r) (hv:Vs l):(gW x=true∧x.un=x)∧Vs r:=by
 unfold same at h;obtain ⟨a,l1,h1,h⟩:=bind_ok h;obtain ⟨u,l2,h2,h⟩:=bind_ok h;obtain ⟨b,l3,h3,h⟩:=bind_ok h;obtain ⟨u',l4,h4,h⟩:=bind_ok h;obtain ⟨k1,v1⟩:=pq h1 hv;obtain ⟨k3,v3⟩:=pq h3 (eH h2 v1);injection h with ha hb;subst ha;subst hb;refine ⟨⟨?_,?_⟩,eH h4 v3⟩
 ·unfold gW;rw[k1.1,k3.1];rfl
 ·unfold Pair.un;simp only;rw[k1.2,k3.2]
def Bb (p:List UInt8 × Int):Prop:=bQ p.1 p.2=true∧jM p.1 p.2=p.2
theorem FX:∀ (n:Nat) (acc:List (List UInt8 × Int)) (l:List Tok) (x:List (List UInt8 × Int)) (r:List Tok),l.length+1≤n→refs last n acc l = .ok x r→Vs l→(∀ p∈acc,Bb p)→((∀ p∈x,Bb p)∧x≠[])∧Vs r
 | 0,acc,l,x,r,hn,_,_,_=>by omega
 | n+1,acc,l,x,r,hn,h,hv,ha=>by
  rw[refs] at h;obtain ⟨p,l1,h1,h⟩:=bind_ok h;obtain ⟨k1,v1⟩:=pq h1 hv;have hacc:∀ q∈acc++[p],Bb q:=fun q hq=>by
   rcases List.mem_append.1 hq with hq | hq
   ·exact ha q hq
   ·rw[List.mem_singleton] at hq;subst hq;exact k1
  split at h
  ·rename_i hh;have e1:=lG last l p l1 h1;have e2:=eT hh;exact FX n (acc++[p]) l1.tail x r (by omega) h v1.tail hacc
  ·injection h with h2 h3;subst h2;subst h3;exact ⟨⟨hacc,by simp⟩,v1⟩
theorem mg:∀ (ps:List (List UInt8 × Int)),(ps.map (·.1)).zip (ps.map (·.2))=ps
 | []=>rfl
 | p::ps=>by simp [mg ps]
theorem FY {x:iK} (h:take last l = .ok x r) (hv:Vs l):(fG x=true∧x.un=x)∧Vs r:=by
 unfold take at h;obtain ⟨nm,l1,h1,h⟩:=bind_ok h;obtain ⟨cr,l2,h2,h⟩:=bind_ok h;obtain ⟨u,l3,h3,h⟩:=bind_ok h;obtain ⟨rs,l4,h4,h⟩:=bind_ok h;obtain ⟨g,l5,h5,h⟩:=bind_ok h;simp only at h;obtain ⟨u',l6,h6,h⟩:=bind_ok h;obtain ⟨k1,v1⟩:=jJ h1 hv;obtain ⟨k2,v2⟩:=bV h2 v1;obtain ⟨⟨k4,k4n⟩,v4⟩:=FX _ [] _ _ _ (Nat.le_refl _) h4 (wh h3 v2) (by simp);have hg:(0≤g∧g≤12)∧Vs l5:=by
  split at h5
  ·exact bV h5 v4.tail
  ·injection h5 with ha hb;subst ha;subst hb;exact ⟨by decide,v4⟩
 have v6:Vs (if hit 1 dV l5 then l5.tail else l5):=by
  split
  ·exact hg.2.tail
  ·exact hg.2
 injection h with ha hb;subst ha;subst hb;refine ⟨⟨?_,?_⟩,eH h6 v6⟩
 ·unfold fG;simp only;rw[k1,bM.2 k2,bM.2 hg.1,mg];have:(rs.map (·.1)).isEmpty=false:=by
   cases rs with
   | nil=>exact absurd rfl k4n
   | cons=>rfl
  rw[this];simp only[List.length_map,beq_self_eq_true,Bool.not_false,Bool.and_true,Bool.true_and,List.all_eq_true];exact fun p hp=>(k4 p hp).1
 ·unfold iK.un;simp only;rw[mg];have:(rs.map fun p=>jM p.1 p.2)=rs.map (·.2):=List.map_congr_left fun p hp=>(k4 p hp).2;rw[this]
theorem CQ:∀ (n:Nat) (acc:List iK) (l:List Tok) (x:List iK) (r:List Tok),takes last n acc l = .ok x r→Vs l→acc.length≤64→(∀ q∈acc,fG q=true∧q.un=q)→(x.length≤64∧∀ q∈x,fG q=true∧q.un=q)∧Vs r
 | 0,acc,l,x,r,h,hv,ha,hq=>by
  rw[takes] at h;injection h with h1 h2;subst h1;subst h2;exact ⟨⟨ha,hq⟩,hv⟩
 | n+1,acc,l,x,r,h,hv,ha,hq=>by
  rw[takes] at h
  split at h
  ·split at h
   ·unfold fail at h;cases h
   ·rename_i h64;obtain ⟨q,l1,h1,h⟩:=bind_ok h;obtain ⟨k1,v1⟩:=FY h1 hv.tail;refine CQ n (acc++[q]) l1 x r h v1 (by simp;omega) fun y hy=>?_
    rcases List.mem_append.1 hy with hy | hy
    ·exact hq y hy
    ·rw[List.mem_singleton] at hy;subst hy;exact k1
  ·injection h with h1 h2;subst h1;subst h2;exact ⟨⟨ha,hq⟩,hv⟩
theorem FZ {α:Type} {f:α→α} : ∀ {xs:List α},(∀ x∈xs,f x=x)→xs.map f=xs
 | [],_=>rfl
 | x::xs,h=>by rw [List.map_cons,h x (by simp),FZ fun y hy=>h y (by simp [hy])]
theorem Bc {x:Prog} (h:fE last l = .ok x r) (hv:Vs l):(dW x=true∧x.un=x)∧Vs r:=by
 unfold fE at h;obtain ⟨no,l1,h1,h⟩:=bind_ok h;obtain ⟨nm,l2,h2,h⟩:=bind_ok h;obtain ⟨u,l3,h3,h⟩:=bind_ok h;obtain ⟨us,l4,h4,h⟩:=bind_ok h;obtain ⟨ea,l5,h5,h⟩:=bind_ok h;obtain ⟨me,l6,h6,h⟩:=bind_ok h;obtain ⟨qs,l7,h7,h⟩:=bind_ok h;obtain ⟨u',l8,h8,h⟩:=bind_ok h;obtain ⟨k1,v1⟩:=bV h1 hv;obtain ⟨k2,v2⟩:=jJ h2 v1;obtain ⟨k4,v4⟩:=nP (P:=fun n:Int=>1≤n∧n≤4) (fun l x r h hv=>bV h hv) (by decide) h4 (eH h3 v2);obtain ⟨k5,v5⟩:=nP (P:=fun n:Int=>0≤n∧n≤10000) (fun l x r h hv=>bV h hv) (by decide) h5 v4
 obtain ⟨k6,v6⟩:=nP (P:=fun x:bL=>x.fine=true) (fun l x r h hv=>sV h hv) (by decide) h6 v5;obtain ⟨⟨k7,k7q⟩,v7⟩:=CQ _ [] _ _ _ h7 v6 (by simp) (by simp);injection h with ha hb;subst ha;subst hb;refine ⟨⟨?_,?_⟩,eH h8 v7⟩
 ·unfold dW;simp only;rw[bM.2 k1,k2,bM.2 k4,bM.2 k5,k6,decide_eq_true k7];simp only[Bool.true_and,List.all_eq_true];exact fun q hq=>(k7q q hq).1
 ·unfold Prog.un;simp only;rw[FZ fun q hq=>(k7q q hq).2]
theorem uW {x:Cls} (h:standing last l = .ok x r) (hv:Vs l):fT x=true∧Vs r:=by
 unfold standing at h;obtain ⟨nm,l1,h1,h⟩:=bind_ok h;obtain ⟨ea,l2,h2,h⟩:=bind_ok h;obtain ⟨u,l3,h3,h⟩:=bind_ok h;obtain ⟨me,l4,h4,h⟩:=bind_ok h;obtain ⟨u',l5,h5,h⟩:=bind_ok h;obtain ⟨k1,v1⟩:=jJ h1 hv;obtain ⟨k2,v2⟩:=bV h2 v1;obtain ⟨k4,v4⟩:=sV h4 (wh h3 v2);injection h with ha hb;subst ha;subst hb;exact ⟨by unfold fT;simp only;rw[k1,bM.2 k2,k4];rfl,eH h5 v4⟩
theorem QX {x:tL} (h:Ar last l = .ok x r) (hv:Vs l):jo x=true∧Vs r:=by
 unfold Ar at h;obtain ⟨nm,l1,h1,h⟩:=bind_ok h;obtain ⟨cr,l2,h2,h⟩:=bind_ok h;obtain ⟨u',l3,h3,h⟩:=bind_ok h;obtain ⟨k1,v1⟩:=jJ h1 hv;obtain ⟨k2,v2⟩:=bV h2 v1;injection h with ha hb;subst ha;subst hb;exact ⟨by unfold jo;simp only;rw[k1,bM.2 k2];rfl,eH h3 v2⟩
theorem Il {x:Clause} (h:clause last l = .ok x r) (hv:Vs l):dL x=true∧Vs r:=by
 unfold clause at h;obtain ⟨k,l1,h1,h⟩:=bind_ok h;obtain ⟨w,l2,h2,h⟩:=bind_ok h;obtain ⟨a,l3,h3,h⟩:=bind_ok h;obtain ⟨u,l4,h4,h⟩:=bind_ok h;obtain ⟨n,l5,h5,h⟩:=bind_ok h;obtain ⟨u',l6,h6,h⟩:=bind_ok h;obtain ⟨k1,v1⟩:=pE h1 hv;obtain ⟨k2,v2⟩:=pE h2 v1;obtain ⟨k3,v3⟩:=pE h3 v2;obtain ⟨k5,v5⟩:=bV h5 (wh h4 v3);have e1:(kindWords.length:Int)=5:=rfl;have e2:(whenWords.length:Int)=3:=rfl;have e3:(actionWords.length:Int)=3:=rfl;injection h with ha hb;subst ha;subst hb
 exact ⟨by unfold dL;simp only;rw[bM.2 (by omega),bM.2 (by omega),bM.2 (by omega),bM.2 k5];rfl,eH h6 v5⟩
end
def sW (c:dh):Prop:=eX c=true∧c.un=c
theorem lH {α:Type} {p:α→Bool} {xs:List α} {x:α} (h:xs.all p=true) (hx:p x=true):(xs++[x]).all p=true:=by rw [List.all_append,h];simp[hx]
theorem zM {last:Int} {w:List UInt8} {c x:dh} {l r:List Tok} (h:dx last w c l = .ok x r) (hv:Vs l) (hc:sW c):sW x∧Vs r:=by
 obtain ⟨hc1,hc2⟩:=hc;unfold eX at hc1;simp only[Bool.and_eq_true] at hc1;obtain ⟨⟨⟨⟨⟨⟨g1,g2⟩,g3⟩,g4⟩,g5⟩,g6⟩,g7⟩:=hc1;have u1:c.courses.map Course.un=c.courses:=congrArg dh.courses hc2;have u2:c.same.map Pair.un=c.same:=congrArg dh.same hc2;have u3:c.aS.map Prog.un=c.aS:=congrArg dh.aS hc2;unfold dx at h
 split at h
 ·obtain ⟨y,l1,h1,h⟩:=bind_ok h;obtain ⟨⟨k1,k2⟩,v1⟩:=Ik h1 hv;injection h with ha hb;subst ha;subst hb;refine ⟨⟨?_,?_⟩,v1⟩
  ·unfold eX;simp only;rw[lH g1 k1,g2,g3,g4,g5,g6,g7];rfl
  ·unfold dh.un;simp only;rw[List.map_append,u1,u2,u3,List.map_cons,List.map_nil,k2]
 split at h
 ·obtain ⟨y,l1,h1,h⟩:=bind_ok h;obtain ⟨⟨k1,k2⟩,v1⟩:=NZ h1 hv;injection h with ha hb;subst ha;subst hb;refine ⟨⟨?_,?_⟩,v1⟩
  ·unfold eX;simp only;rw[g1,lH g2 k1,g3,g4,g5,g6,g7];rfl
  ·unfold dh.un;simp only;rw[List.map_append,u1,u2,u3,List.map_cons,List.map_nil,k2]
 split at h
 ·obtain ⟨y,l1,h1,h⟩:=bind_ok h;obtain ⟨⟨k1,k2⟩,v1⟩:=Bc h1 hv;injection h with ha hb;subst ha;subst hb;refine ⟨⟨?_,?_⟩,v1⟩
  ·unfold eX;simp only;rw[g1,g2,lH g3 k1,g4,g5,g6,g7];rfl
  ·unfold dh.un;simp only;rw[List.map_append,u1,u2,u3,List.map_cons,List.map_nil,k2]
 split at h
 ·obtain ⟨y,l1,h1,h⟩:=bind_ok h;obtain ⟨k1,v1⟩:=uW h1 hv;injection h with ha hb;subst ha;subst hb;refine ⟨⟨?_,?_⟩,v1⟩
  ·unfold eX;simp only;rw[g1,g2,g3,lH g4 k1,g5,g6,g7];rfl
  ·unfold dh.un;simp only;rw[u1,u2,u3]
 split at h
 ·obtain ⟨y,l1,h1,h⟩:=bind_ok h;obtain ⟨k1,v1⟩:=uW h1 hv;injection h with ha hb;subst ha;subst hb;refine ⟨⟨?_,?_⟩,v1⟩
  ·unfold eX;simp only;rw[g1,g2,g3,g4,g5,lH g6 k1,g7];rfl
  ·unfold dh.un;simp only;rw[u1,u2,u3]
 split at h
 ·obtain ⟨y,l1,h1,h⟩:=bind_ok h;obtain ⟨k1,v1⟩:=QX h1 hv;injection h with ha hb;subst ha;subst hb;refine ⟨⟨?_,?_⟩,v1⟩
  ·unfold eX;simp only;rw[g1,g2,g3,g4,lH g5 k1,g6,g7];rfl
  ·unfold dh.un;simp only;rw[u1,u2,u3]
 ·obtain ⟨y,l1,h1,h⟩:=bind_ok h;obtain ⟨k1,v1⟩:=Il h1 hv;injection h with ha hb;subst ha;subst hb;refine ⟨⟨?_,?_⟩,v1⟩
  ·unfold eX;simp only;rw[g1,g2,g3,g4,g5,g6,lH g7 k1];rfl
  ·unfold dh.un;simp only;rw[u1,u2,u3]
theorem F7 {last:Int} : ∀ (n:Nat) (c:dh) (l:List Tok) (x:dh) (r:List Tok),defs last n c l = .ok x r→Vs l→sW c→sW x
 | 0,c,l,x,r,h,_,hc=>by
  rw[defs] at h;injection h with h1 _;subst h1;exact hc
 | n+1,c,[],x,r,h,_,hc=>by
  simp only[defs,R.ok.injEq] at h;rw[←h.1];exact hc
 | n+1,c,t::l,x,r,h,hv,hc=>by
  cases hf:vJ t with
  | none=>rw [qx hf] at h;cases h
  | some w=>
   rw[qy hf] at h;obtain ⟨c1,l1,h1,h⟩:=bind_ok h;obtain ⟨k1,v1⟩:=zM h1 (fun q hq=>hv q (by simp [hq])) hc;exact F7 n c1 l1 x r h v1 k1
theorem EI {src:List UInt8} {c:dh} (h:parse src = .ok c):eX c=true∧c.un=c:=by
 obtain ⟨l,_,k1,k2⟩:=xK h;unfold cZ at k2;exact F7 _ _ _ _ _ k2 (fun t ht=>(Lx.qo k1 t ht).1) ⟨rfl,rfl⟩
section
variable {last : Int} {l r : List Tok}
theorem uz {p:List UInt8 × Int} (h:ref last l = .ok p r) (hv:Vs l):(fO p.1 p.2).length+r.length≤l.length:=by
 unfold ref at h
 split at h
 ·rename_i hh;obtain ⟨n,l1,h1,h2⟩:=bind_ok h;have e1:=bD last _ _ _ _ _ h1;have e2:=eT hh;injection h2 with h2 h3;subst h2;subst h3;simp only[fO,List.isEmpty_nil,if_true,List.length_cons,List.length_nil];omega
 ·obtain ⟨s,l1,h1,h2⟩:=bind_ok h;have e1:=iC last _ _ _ h1;have e2:=zL (jJ h1 hv).1;injection h2 with h2 h3;subst h2;subst h3;simp only[fO,e2,Bool.false_eq_true,if_false,List.length_cons,List.length_nil];omega
theorem xL {α:Type} {w:List UInt8} {f:List Tok→R α} {d x:α} {ts:α→Nat} (hf:∀ l x r,f l = .ok x r→Vs l→ts x+r.length≤l.length) (hd:opt last w f d l = .ok x r) (hv:Vs l):(∃ l1,hit 1 w l=true∧f l.tail = .ok x l1∧ts x+2+r.length≤l.length)∨x=d∧r=l:=by
 unfold opt at hd
 split at hd
 ·rename_i hh;obtain ⟨y,l1,h1,h⟩:=bind_ok hd;obtain ⟨u,l2,h2,h⟩:=bind_ok h;have e1:=hf _ _ _ h1 hv.tail;have e2:=bK last _ _ _ _ _ h2;have e3:=eT hh;injection h with h3 h4;subst h3;subst h4;exact .inl ⟨l1,hh,h1,by omega⟩
 ·injection hd with h3 h4;exact .inr ⟨h3.symm,h4.symm⟩
end
theorem zN:∀ (a b:List Rule),(bC (a++b)).length=(bC a).length+(bC b).length
 | [],b=>by simp [bC]
 | x::a,b=>by rw [List.cons_append,bC,bC,List.length_append,List.length_append,List.length_cons,List.length_cons,zN a b];omega
theorem Bd {last:Int} {f:Nat→List Tok→R Rule} (hf:∀ b l x r,f b l = .ok x r→Vs l→(aF x).length+r.length≤l.length∧Vs r) (he:∀ b l,jZ 1 l (f b l)) :
  ∀ (n:Nat) (acc:List Rule) (l:List Tok) (ks:List Rule) (r:List Tok),l.length+1≤n→kids last f n acc l = .ok ks r→Vs l→(bC ks).length+1+r.length≤(bC acc).length+l.length
 | 0,acc,l,ks,r,hn,_,_=>by omega
 | n+1,acc,l,ks,r,hn,h,hv=>by
  rw[kids] at h
  split at h
  ·rename_i hh;have e3:=eT hh;injection h with h1 h2;subst h1;subst h2;omega
  ·obtain ⟨y,l1,h1,h⟩:=bind_ok h;obtain ⟨u,l2,h2,h⟩:=bind_ok h;obtain ⟨e1,v1⟩:=hf _ _ _ _ h1 hv;have e2:=bK last _ _ _ _ _ h2;have e3:=he _ _ _ _ h1;have:=Bd hf he n (acc++[y]) l2 ks r (by omega) h (eH h2 v1);rw[zN,bC,bC,List.length_append,List.length_cons,List.length_nil] at this;omega
theorem F8 {last:Int} : ∀ (k b:Nat) (l:List Tok) (x:Rule) (r:List Tok),rule last k b l = .ok x r→Vs l→(aF x).length+r.length≤l.length∧Vs r
 | 0,b,l,x,r,h,hv=>by
  rw[rule] at h;obtain ⟨y,l1,h1,h⟩:=bind_ok h;unfold fail at h;cases h
 | k+1,b,l,x,r,h,hv=>by
  refine ⟨?_,(lZ _ _ _ _ _ h hv).2⟩;rw[rule] at h;obtain ⟨i,l1,h1,h⟩:=bind_ok h;have v1:=(pE h1 hv).2;have e0:=jC last _ _ _ _ h1
  split at h
  ·unfold fail at h;cases h
  have ih:=fun b l x r=>F8 (last:=last) k b l x r;obtain ⟨op,hop⟩:∃ op,op=i+1:=⟨_,rfl⟩
  rw[←hop] at h;unfold cB at h
  split at h
  ·rename_i h4;obtain ⟨q,l2,h2,h⟩:=bind_ok h;have e2:=(ih _ _ _ _ h2 v1).1;injection h with ha hb;subst ha;subst hb;rw[aF];simp[tZ];omega
  split at h
  ·rename_i h5;obtain ⟨p,l2,h2,h⟩:=bind_ok h;obtain ⟨n,l3,h3,h⟩:=bind_ok h;have e2:=uz h2 v1;have e3:=bD last _ _ _ _ _ h3;injection h with ha hb;subst ha;subst hb;rw[aF];simp;omega
  split at h
  ·obtain ⟨p,l2,h2,h⟩:=bind_ok h;obtain ⟨n,l3,h3,h⟩:=bind_ok h;have e2:=uz h2 v1;have e3:=bD last _ _ _ _ _ h3;injection h with ha hb;subst ha;subst hb;rw[aF];simp;omega
  split at h
  ·obtain ⟨n,l3,h3,h⟩:=bind_ok h;have e3:=bD last _ _ _ _ _ h3;injection h with ha hb;subst ha;subst hb;rw[aF];simp;omega
  split at h
  ·obtain ⟨q,l3,h3,h⟩:=bind_ok h;have e3:=lF last _ _ _ h3;injection h with ha hb;subst ha;subst hb;rw[aF];simp[bO];omega
  split at h
  ·obtain ⟨p,l2,h2,h⟩:=bind_ok h;have e2:=uz h2 v1;injection h with ha hb;subst ha;subst hb;rw[aF];simp;omega
  split at h
  ·obtain ⟨n,l2,h2,h⟩:=bind_ok h;obtain ⟨u,l3,h3,h⟩:=bind_ok h;obtain ⟨ks,l4,h4,h⟩:=bind_ok h;have v2:=(bV h2 v1).2;have e2:=bD last _ _ _ _ _ h2;have e3:=bK last _ _ _ _ _ h3;have e4:=Bd ih (fun b l=>kT last k b l) _ _ _ _ _ (Nat.le_refl _) h4 (eH h3 v2);injection h with ha hb;subst ha;subst hb;rw[aF];simp[bC] at e4 ⊢;omega
  ·rename_i g4 g5 g6 g7 g8 g9 g3;obtain ⟨u,l3,h3,h⟩:=bind_ok h;obtain ⟨ks,l4,h4,h⟩:=bind_ok h;have e3:=bK last _ _ _ _ _ h3;have e4:=Bd ih (fun b l=>kT last k b l) _ _ _ _ _ (Nat.le_refl _) h4 (eH h3 v1);injection h with ha hb;subst ha;subst hb;rw[aF];simp only[g4,g5,g6,g7,g8,g9,g3,or_self,if_false];simp[bC] at e4 ⊢;omega
section
variable {last : Int} {l r : List Tok}
theorem Im {x:Course} (h:course last l = .ok x r) (hv:Vs l):(bP x).length+r.length≤l.length+1:=by
 rw[uy] at h;obtain ⟨no,l1,h1,h⟩:=bind_ok h;obtain ⟨nm,l2,h2,h⟩:=bind_ok h;obtain ⟨cr,l3,h3,h⟩:=bind_ok h;have v1:=(bV h1 hv).2;have v2:=(jJ h2 v1).2;have v3:=(bV h3 v2).2;have e1:=bD last _ _ _ _ _ h1;have e2:=iC last _ _ _ h2;have e3:=bD last _ _ _ _ _ h3;have hrep:∃ i l4,rep l3=(i,l4)∧Vs l4∧(if i≠0 then 1 else 0)+l4.length≤l3.length:=by
  unfold rep;cases hf:find repeatWords l3 with
  | none=>exact ⟨0,l3,rfl,v3,by simp⟩
  | some i=>
   have:=zx hf;refine ⟨i,l3.tail,rfl,v3.tail,?_⟩
   split <;> omega
 obtain ⟨i,l4,e4,v4,z4⟩:=hrep;rw[e4] at h;obtain ⟨u,l5,h5,h⟩:=bind_ok h;obtain ⟨nd,l6,h6,h⟩:=bind_ok h;obtain ⟨br,l7,h7,h⟩:=bind_ok h;obtain ⟨u',l8,h8,h⟩:=bind_ok h;have e5:=bK last _ _ _ _ _ h5;have v5:=eH h5 v4;have hr:=fun l x r (h:rule last 16 0 l = .ok x r) (hv:Vs l)=>(F8 16 0 l x r h hv).1;have v6:=(nP (P:=jQ 16) (fun l x r h hv=>⟨(lZ 16 0 l x r h hv).1.1,(lZ 16 0 l x r h hv).2⟩) ⟨by decide,rfl⟩ h6 v5).2;have e8:=bK last _ _ _ _ _ h8;have z6:(if nd.op≠1∨nd.kids≠[] then av je::(aF nd++[bI 59]) else []).length+l6.length≤l5.length:=by
  rcases xL (ts:=fun x=>(aF x).length) hr h6 v5 with ⟨_,_,_,hz⟩ | ⟨rfl,rfl⟩
  ·split <;> simp <;> omega
  ·simp[Rule.op,Rule.kids]
 have z7:(if br.op≠2∨br.kids≠[] then av lN::(aF br++[bI 59]) else []).length+l7.length≤l6.length:=by
  rcases xL (ts:=fun x=>(aF x).length) hr h7 v6 with ⟨_,_,_,hz⟩ | ⟨rfl,rfl⟩
  ·split <;> simp <;> omega
  ·simp[Rule.op,Rule.kids]
 injection h with ha hb;subst ha;subst hb;unfold bP;simp only[List.length_append,List.length_cons,List.length_nil];have z4':(if i≠0 then [av (repeatWords.getD i.toNat [])] else []).length+l4.length≤l3.length:=by
  split <;> rename_i hh <;> simp [hh] at z4 ⊢ <;> omega
 dsimp only at e5;omega
theorem N7 {x:Pair} (h:same last l = .ok x r) (hv:Vs l):(pairT x).length+r.length≤l.length+1:=by
 unfold same at h;obtain ⟨a,l1,h1,h⟩:=bind_ok h;obtain ⟨u,l2,h2,h⟩:=bind_ok h;obtain ⟨b,l3,h3,h⟩:=bind_ok h;obtain ⟨u',l4,h4,h⟩:=bind_ok h;have v1:=(pq h1 hv).2;have e1:=uz h1 hv;have e2:=bK last _ _ _ _ _ h2;have e3:=uz h3 (eH h2 v1);have e4:=bK last _ _ _ _ _ h4;injection h with ha hb;subst ha;subst hb;unfold pairT;simp only[List.length_append,List.length_cons,List.length_nil];omega
theorem xM:∀ (ps:List (List UInt8 × Int)) (p:List UInt8 × Int),dF (ps++[p])=(if ps.isEmpty then [] else dF ps++[bI 44])++fO p.1 p.2
 | [],p=>by simp [dF]
 | [q],p=>by simp [dF]
 | q::s::ps,p=>by
  have:=xM (s::ps) p;rw[List.cons_append,List.cons_append,dF,←List.cons_append,this,dF];simp
theorem F9:∀ (n:Nat) (acc:List (List UInt8 × Int)) (l:List Tok) (x:List (List UInt8 × Int)) (r:List Tok),l.length+1≤n→refs last n acc l = .ok x r→Vs l→(dF x).length+r.length≤(if acc.isEmpty then 0 else (dF acc).length+1)+l.length
 | 0,acc,l,x,r,hn,_,_=>by omega
 | n+1,acc,l,x,r,hn,h,hv=>by
  rw[refs] at h;obtain ⟨p,l1,h1,h⟩:=bind_ok h;have v1:=(pq h1 hv).2;have e1:=uz h1 hv;have hs:=congrArg List.length (xM acc p);have hz:(dF (acc++[p])).length=(if acc.isEmpty then 0 else (dF acc).length+1)+(fO p.1 p.2).length:=by
   rw[hs];split <;> simp <;> omega
  split at h
  ·rename_i hh;have e2:=eT hh;have e3:=lG last l p l1 h1;have:=F9 n (acc++[p]) l1.tail x r (by omega) h v1.tail;rw[if_neg (by simp),hz] at this;omega
  ·injection h with h2 h3;subst h2;subst h3;rw[hz];omega
theorem N8 {x:iK} (h:take last l = .ok x r) (hv:Vs l):(gL x).length+r.length≤l.length+1:=by
 unfold take at h;obtain ⟨nm,l1,h1,h⟩:=bind_ok h;obtain ⟨cr,l2,h2,h⟩:=bind_ok h;obtain ⟨u,l3,h3,h⟩:=bind_ok h;obtain ⟨rs,l4,h4,h⟩:=bind_ok h;obtain ⟨g,l5,h5,h⟩:=bind_ok h;simp only at h;obtain ⟨u',l6,h6,h⟩:=bind_ok h;have v1:=(jJ h1 hv).2;have v2:=(bV h2 v1).2;have e1:=iC last _ _ _ h1;have e2:=bD last _ _ _ _ _ h2;have e3:=bK last _ _ _ _ _ h3;have e4:=F9 _ [] _ _ _ (Nat.le_refl _) h4 (wh h3 v2);have e6:=bK last _ _ _ _ _ h6;have hg:(if g≠1 then [av vX,aW g] else []).length+l5.length≤l4.length:=by
  split at h5
  ·rename_i hh;have e5:=bD last _ _ _ _ _ h5;have e7:=eT hh
   split <;> simp <;> omega
  ·injection h5 with ha hb;subst ha;subst hb;simp
 have hm:(if hit 1 dV l5 then [av dV] else []).length+(if hit 1 dV l5 then l5.tail else l5).length≤l5.length:=by
  split
  ·rename_i hh;have e7:=eT hh;simp;omega
  ·simp
 injection h with ha hb;subst ha;subst hb;unfold gL;simp only[List.length_append,List.length_cons,List.length_nil,mg];simp only[List.isEmpty_nil,if_true] at e4;omega
theorem CS:∀ (n:Nat) (acc:List iK) (l:List Tok) (x:List iK) (r:List Tok),takes last n acc l = .ok x r→Vs l→(x.flatMap gL).length+r.length≤(acc.flatMap gL).length+l.length
 | 0,acc,l,x,r,h,hv=>by
  rw[takes] at h;injection h with h1 h2;subst h1;subst h2;omega
 | n+1,acc,l,x,r,h,hv=>by
  rw[takes] at h
  split at h
  ·rename_i hh
   split at h
   ·unfold fail at h;cases h
   ·obtain ⟨q,l1,h1,h⟩:=bind_ok h;have e1:=N8 h1 hv.tail;have e2:=eT hh;have:=CS n (acc++[q]) l1 x r h (FY h1 hv.tail).2;rw[List.flatMap_append,List.length_append,List.flatMap_cons,List.flatMap_nil,List.append_nil] at this;omega
  ·injection h with h1 h2;subst h1;subst h2;omega
theorem Bf {x:Prog} (h:fE last l = .ok x r) (hv:Vs l):(eB x).length+r.length≤l.length+1:=by
 unfold fE at h;obtain ⟨no,l1,h1,h⟩:=bind_ok h;obtain ⟨nm,l2,h2,h⟩:=bind_ok h;obtain ⟨u,l3,h3,h⟩:=bind_ok h;obtain ⟨us,l4,h4,h⟩:=bind_ok h;obtain ⟨ea,l5,h5,h⟩:=bind_ok h;obtain ⟨me,l6,h6,h⟩:=bind_ok h;obtain ⟨qs,l7,h7,h⟩:=bind_ok h;obtain ⟨u',l8,h8,h⟩:=bind_ok h;have v1:=(bV h1 hv).2;have v2:=(jJ h2 v1).2;have v3:=eH h3 v2;have v4:=(nP (P:=fun n:Int=>1≤n∧n≤4) (fun l x r h hv=>bV h hv) (by decide) h4 v3).2;have v5:=(nP (P:=fun n:Int=>0≤n∧n≤10000) (fun l x r h hv=>bV h hv) (by decide) h5 v4).2
 have v6:=(nP (P:=fun x:bL=>x.fine=true) (fun l x r h hv=>sV h hv) (by decide) h6 v5).2;have e1:=bD last _ _ _ _ _ h1;have e2:=iC last _ _ _ h2;have e3:=bK last _ _ _ _ _ h3;have z4:(if us≠1 then [av jL,aW us,bI 59] else []).length+l4.length≤l3.length:=by
  rcases xL (ts:=fun _=>1) (fun l x r h hv=>by have:=bD last _ _ _ _ _ h;omega) h4 v3 with ⟨_,_,_,hz⟩ | ⟨rfl,rfl⟩
  ·split <;> simp <;> omega
  ·simp
 have z5:(if ea≠0 then [av gY,aW ea,bI 59] else []).length+l5.length≤l4.length:=by
  rcases xL (ts:=fun _=>1) (fun l x r h hv=>by have:=bD last _ _ _ _ _ h;omega) h5 v4 with ⟨_,_,_,hz⟩ | ⟨rfl,rfl⟩
  ·split <;> simp <;> omega
  ·simp
 have z6:(if me.num≠0 then av fD::(bO me++[bI 59]) else []).length+l6.length≤l5.length:=by
  rcases xL (ts:=fun _=>3) (fun l x r h hv=>by have:=lF last _ _ _ h;omega) h6 v5 with ⟨_,_,_,hz⟩ | ⟨rfl,rfl⟩
  ·split <;> simp [bO] <;> omega
  ·simp
 have z7:=CS _ [] _ _ _ h7 v6;have e8:=bK last _ _ _ _ _ h8;injection h with ha hb;subst ha;subst hb;unfold eB;simp only[List.length_append,List.length_cons,List.length_nil];simp only[List.flatMap_nil,List.length_nil] at z7;omega
theorem uX {w:List UInt8} {x:Cls} (h:standing last l = .ok x r):(fu w x).length+r.length≤l.length+1:=by
 unfold standing at h;obtain ⟨nm,l1,h1,h⟩:=bind_ok h;obtain ⟨ea,l2,h2,h⟩:=bind_ok h;obtain ⟨u,l3,h3,h⟩:=bind_ok h;obtain ⟨me,l4,h4,h⟩:=bind_ok h;obtain ⟨u',l5,h5,h⟩:=bind_ok h;have e1:=iC last _ _ _ h1;have e2:=bD last _ _ _ _ _ h2;have e3:=bK last _ _ _ _ _ h3;have e4:=lF last _ _ _ h4;have e5:=bK last _ _ _ _ _ h5;injection h with ha hb;subst ha;subst hb;simp[fu,bO];omega
theorem QY {x:tL} (h:Ar last l = .ok x r):(jy x).length+r.length≤l.length+1:=by
 unfold Ar at h;obtain ⟨nm,l1,h1,h⟩:=bind_ok h;obtain ⟨cr,l2,h2,h⟩:=bind_ok h;obtain ⟨u',l3,h3,h⟩:=bind_ok h;have e1:=iC last _ _ _ h1;have e2:=bD last _ _ _ _ _ h2;have e3:=bK last _ _ _ _ _ h3;injection h with ha hb;subst ha;subst hb;simp[jy];omega
theorem Io {x:Clause} (h:clause last l = .ok x r):(dI x).length+r.length≤l.length+1:=by
 unfold clause at h;obtain ⟨k,l1,h1,h⟩:=bind_ok h;obtain ⟨w,l2,h2,h⟩:=bind_ok h;obtain ⟨a,l3,h3,h⟩:=bind_ok h;obtain ⟨u,l4,h4,h⟩:=bind_ok h;obtain ⟨n,l5,h5,h⟩:=bind_ok h;obtain ⟨u',l6,h6,h⟩:=bind_ok h;have e1:=jC last _ _ _ _ h1;have e2:=jC last _ _ _ _ h2;have e3:=jC last _ _ _ _ h3;have e4:=bK last _ _ _ _ _ h4;have e5:=bD last _ _ _ _ _ h5;have e6:=bK last _ _ _ _ _ h6;injection h with ha hb;subst ha;subst hb;simp[dI];omega
theorem Ip {w:List UInt8} {c x:dh} (h:dx last w c l = .ok x r) (hv:Vs l):(gQ x).length+r.length≤(gQ c).length+l.length+1:=by
 unfold dx at h
 split at h
 ·obtain ⟨y,l1,h1,h⟩:=bind_ok h;have e:=Im h1 hv;injection h with ha hb;subst ha;subst hb;simp[gQ,List.length_append] at e ⊢;omega
 split at h
 ·obtain ⟨y,l1,h1,h⟩:=bind_ok h;have e:=N7 h1 hv;injection h with ha hb;subst ha;subst hb;simp[gQ,List.length_append] at e ⊢;omega
 split at h
 ·obtain ⟨y,l1,h1,h⟩:=bind_ok h;have e:=Bf h1 hv;injection h with ha hb;subst ha;subst hb;simp[gQ,List.length_append] at e ⊢;omega
 split at h
 ·obtain ⟨y,l1,h1,h⟩:=bind_ok h;have e:=uX (w:=dM) h1;injection h with ha hb;subst ha;subst hb;simp[gQ,List.length_append] at e ⊢;omega
 split at h
 ·obtain ⟨y,l1,h1,h⟩:=bind_ok h;have e:=uX (w:=cK) h1;injection h with ha hb;subst ha;subst hb;simp[gQ,List.length_append] at e ⊢;omega
 split at h
 ·obtain ⟨y,l1,h1,h⟩:=bind_ok h;have e:=QY h1;injection h with ha hb;subst ha;subst hb;simp[gQ,List.length_append] at e ⊢;omega
 ·obtain ⟨y,l1,h1,h⟩:=bind_ok h;have e:=Io h1;injection h with ha hb;subst ha;subst hb;simp[gQ,List.length_append] at e ⊢;omega
end
theorem Ga {last:Int} : ∀ (n:Nat) (c:dh) (l:List Tok) (x:dh) (r:List Tok),defs last n c l = .ok x r→Vs l→sW c→(gQ x).length≤(gQ c).length+l.length
 | 0,c,l,x,r,h,_,_=>by
  rw[defs] at h;injection h with h1 _;subst h1;omega
 | n+1,c,[],x,r,h,_,_=>by
  simp only[defs,R.ok.injEq] at h;rw[←h.1];omega
 | n+1,c,t::l,x,r,h,hv,hc=>by
  cases hf:vJ t with
  | none=>rw [qx hf] at h;cases h
  | some w=>
   rw[qy hf] at h;obtain ⟨c1,l1,h1,h⟩:=bind_ok h;have hv':Vs l:=fun q hq=>hv q (by simp [hq]);obtain ⟨k1,v1⟩:=zM h1 hv' hc;have e1:=Ip h1 hv';have:=Ga n c1 l1 x r h v1 k1;simp only[List.length_cons];omega
theorem EJ {src:List UInt8} {c:dh} (h:parse src = .ok c):(gQ c).length≤src.length:=by
 obtain ⟨l,_,k1,k2⟩:=xK h;unfold cZ at k2;have:=Ga _ _ _ _ _ k2 (fun t ht=>(Lx.qo k1 t ht).1) ⟨rfl,rfl⟩;have h0:(gQ dh.none).length=0:=rfl;have:=(Lx.Bg k1).2;omega
end Go.Proofs.YtjonaidancomgaaGreatDoor.Sx
