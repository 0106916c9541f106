/- Parts of the proof, joined into one text: q2I, q1J, q1K. -/
import Derived.Test.YtjonaidancomgaaGreatDoorPSxPut
import Derived.Test.YtjonaidancomgaaGreatDoorPSxEq
import Derived.Deep.LoopGhost
import Derived.Test.YtjonaidancomgaaGreatDoorPLxE
namespace Go.Proofs.YtjonaidancomgaaGreatDoor.Sx
open Lx (Tok)
variable {last : Int} {l m : List Tok}
theorem dK.Dl {l r:List Tok} {t:Tok} (h:dK l (t::r)):∃ u s,l=u::s∧(u.kind=t.kind∧u.text=t.text∧u.n=t.n)∧dK s r:=by
 obtain ⟨u,s,h1,h2,h3,h4,h5⟩:=h.cons;exact ⟨u,s,h1,⟨h2,h3,h4⟩,h5⟩
theorem dK.name2 {l r:List Tok} {x:List UInt8} (h:dK l (av x::r)):∃ u s,l=u::s∧(u.kind=1∧u.text=x∧u.n=0)∧dK s r:=h.Dl
theorem dK.q0k {l r:List Tok} {n:Int} (h:dK l (aW n::r)):∃ u s,l=u::s∧(u.kind=2∧u.text = []∧u.n=n)∧dK s r:=h.Dl
theorem dK.sg2 {l r:List Tok} {c:UInt8} (h:dK l (bI c::r)):∃ u s,l=u::s∧(u.kind=3∧u.text = [c]∧u.n=0)∧dK s r:=h.Dl
theorem Gi {k:Int} {x:List UInt8} {t:Tok} (h1:t.kind=k) (h2:t.text=x) (h:dK l (t::m)):∃ r,need last k x l = .ok () r∧dK r m:=by
 obtain ⟨u,s,rfl,⟨a1,a2,_⟩,hs⟩:=h.Dl;exact ⟨s,by unfold need;rw[if_pos (nX (a1.trans h1) (a2.trans h2))];rfl,hs⟩
theorem gB {c:UInt8} (h:dK l (bI c::m)):∃ r,sign last c l = .ok () r∧dK r m:=Gi rfl rfl h
theorem Bt {x:List UInt8} (h:dK l (av x::m)):∃ r,word last x l = .ok () r∧dK r m:=Gi rfl rfl h
theorem qI {x:List UInt8} (h:dK l (av x::m)):∃ r,name last l = .ok x r∧dK r m:=by
 obtain ⟨u,s,rfl,⟨a1,a2,_⟩,hs⟩:=h.name2;exact ⟨s,by unfold name;simp[a1,a2],hs⟩
theorem dR {lo hi n:Int} (h1:lo≤n) (h2:n≤hi) (h:dK l (aW n::m)):∃ r,number last lo hi l = .ok n r∧dK r m:=by
 obtain ⟨u,s,rfl,⟨a1,_,a3⟩,hs⟩:=h.q0k;exact ⟨s,by unfold number;simp[a1,a3,h1,h2],hs⟩
theorem bM {n a b:Int} : dX n a b=true↔a≤n∧n≤b:=by unfold dX;simp
theorem iP {k j:Int} {x:List UInt8} {t:Tok} {r:List Tok} (h1:t.kind=j) (hne:j≠k):hit k x (t::r)=false:=by
 show (t.kind == k && t.text == x)=false;have:(t.kind == k)=false:=by rw [h1];simpa using hne
 rw[this];rfl
theorem nC {k:Int} {x y:List UInt8} {t:Tok} {r:List Tok} (h1:t.text=y) (hne:y≠x):hit k x (t::r)=false:=by
 show (t.kind == k && t.text == x)=false;have:(t.text == x)=false:=by rw [h1];simpa using hne
 rw[this,Bool.and_false]
theorem rU {s:List UInt8} {n:Int} (hk:bQ s n=true) (h:dK l (fO s n++m)):∃ r,ref last l = .ok (s,jM s n) r∧dK r m:=by
 unfold bQ at hk;rw[Bool.and_eq_true,bM] at hk;unfold fO at h;unfold jM;cases s with
 | nil=>
  obtain ⟨u,l1,rfl,⟨a1,a2,_⟩,hs⟩:=dK.sg2 (c:=35) (r:=aW n::m) h;obtain ⟨r,e,s2⟩:=dR (last:=last) (lo:=0) (hi:=4095) hk.1.1 hk.1.2 hs;refine ⟨r,?_,s2⟩;unfold ref;rw[if_pos (nX a1 a2),List.tail_cons,e,aD];rfl
 | cons c s=>
  have h':dK l (av (c::s)::m):=h;obtain ⟨r,e,s2⟩:=qI (last:=last) h';obtain ⟨u,l1,rfl,⟨a1,_,_⟩,_⟩:=h'.name2;refine ⟨r,?_,s2⟩;unfold ref;rw[iP a1 (by decide),if_neg (by simp),e,aD];rfl
theorem xY {x:bL} (hk:x.fine=true) (h:dK l (bO x++m)):∃ r,ratio last l = .ok x r∧dK r m:=by
 unfold bL.fine at hk;simp only[Bool.and_eq_true,decide_eq_true_eq] at hk;obtain ⟨⟨⟨⟨h1,h2⟩,h3⟩,h4⟩,h5⟩:=hk;have h':dK l (aW x.num::bI 47::aW x.den::m):=h;obtain ⟨r1,e1,s1⟩:=dR (last:=last) (lo:=0) (hi:=12000) h3 (by omega) h';obtain ⟨r2,e2,s2⟩:=gB (last:=last) s1;obtain ⟨r3,e3,s3⟩:=dR (last:=last) (lo:=max 1 ((x.num+11) / 12)) (hi:=1000) (by omega) h2 s2;refine ⟨r3,?_,s3⟩;unfold ratio;rw[e1,aD,e2,aD,e3,aD];unfold lowest;rw[h5];simp
theorem Gj {ws:List (List UInt8)} {w:List UInt8} {i:Nat} (hw:oW ws (av w)=some i) (h:dK l (av w::m)):find ws l=some i∧dK l.tail m:=by
 obtain ⟨u,s,rfl,⟨a1,a2,_⟩,hs⟩:=h.Dl;exact ⟨by rw [Ia,Ic ws a1 a2,hw],hs⟩
theorem tF {ws:List (List UInt8)} {w:List UInt8} {i:Nat} (hw:oW ws (av w)=some i) (h:dK l (av w::m)):∃ r,oneOf last ws l = .ok (i:Int) r∧dK r m:=by
 obtain ⟨h1,h2⟩:=Gj hw h;exact ⟨l.tail,by unfold oneOf;rw[h1],h2⟩
theorem xZ {α:Type} {w:List UInt8} {f:List Tok→R α} {d x:α} {ts:List Tok} (hf:∀ l m,dK l (ts++m)→∃ r,f l = .ok x r∧dK r m) (h:dK l (av w::(ts++[bI 59])++m)):∃ r,opt last w f d l = .ok x r∧dK r m:=by
 have h':dK l (av w::(ts++(bI 59::m))):=by simpa using h
 obtain ⟨u,s,rfl,⟨a1,a2,_⟩,hs⟩:=h'.name2;obtain ⟨r1,e1,s1⟩:=hf _ _ hs;obtain ⟨r2,e2,s2⟩:=gB (last:=last) s1;refine ⟨r2,?_,s2⟩;unfold opt;rw[if_pos (nX a1 a2),List.tail_cons,e1,aD,e2,aD]
theorem jU {α:Type} {w:List UInt8} {f:List Tok→R α} {d:α} (h:hit 1 w m=false) (hs:dK l m):opt last w f d l = .ok d l:=by
 unfold opt;rw[lY hs,h,if_neg (by simp)]
theorem Fa (r:Rule):∃ w ts,aF r=av w::ts:=by
 cases r;rw[aF];exact ⟨_,_,rfl⟩
theorem wB {f:Nat→List Tok→R Rule} : ∀ (ks acc:List Rule) (n:Nat) (l m:List Tok),acc.length+ks.length≤200→l.length+1≤n→(∀ r∈ks,∀ b,b < 200→∀ l m,dK l (aF r++m)→∃ s,f b l = .ok r.un s∧dK s m)→
  dK l (bC ks++(bI 125::m))→∃ r,kids last f n acc l = .ok (acc++dJ ks) r∧dK r m
 | ks,acc,0,l,m,_,hn,_,_=>by omega
 | [],acc,n+1,l,m,_,_,_,h=>by
  have h':dK l (bI 125::m):=h;obtain ⟨u,s,rfl,⟨a1,a2,_⟩,hs⟩:=h'.sg2;refine ⟨s,?_,hs⟩;unfold kids;rw[if_pos (nX a1 a2),dJ,List.append_nil];rfl
 | k::ks,acc,n+1,l,m,ha,hn,hf,h=>by
  have h':dK l (aF k++(bI 59::(bC ks++(bI 125::m)))):=by
   rw[bC] at h;simpa using h
  obtain ⟨w,ts,hw⟩:=Fa k;have hh:hit 3 [125] l=false:=by
   rw[lY h',hw];exact iP (j:=1) rfl (by decide)
  simp only[List.length_cons] at ha;obtain ⟨r1,e1,s1⟩:=hf k (by simp) acc.length (by omega) _ _ h';obtain ⟨r2,e2,s2⟩:=gB (last:=last) s1;have n1:=h'.length;have n2:=s2.length;rw[hw] at n1;simp at n1 n2;obtain ⟨r3,e3,s3⟩:=wB ks (acc++[k.un]) n r2 m (by simp;omega) (by omega) (fun r hr=>hf r (by simp [hr])) s2;refine ⟨r3,?_,s3⟩;rw[kids,hh,if_neg (by simp),e1,aD,e2,aD,e3,dJ];simp
theorem jR:∀ {k:Nat} {rs:List Rule},dU k rs=true→∀ r∈rs,aO k r=true
 | _,[],_,_,h=>by simp at h
 | k,q::rs,h,r,hr=>by
  rw[dU,Bool.and_eq_true] at h
  rcases List.mem_cons.1 hr with rfl | hr
  ·exact h.1
  ·exact jR h.2 r hr
theorem qH {k:Nat} {op co:Int} {nm:List UInt8} {n d:Int} {ks:List Rule} (h:aO (k+1) (.mk op co nm n d ks)=true) :
  ks.length≤200∧dU k ks=true∧((op=1∨op=2)∧nm = []∧co=0∧n=0∧d=0∨op=3∧nm = []∧co=0∧(0≤n∧n≤200)∧d=0∨op=4∧nm = []∧co=0∧n=0∧d=0∧ks.length=1∨
   op=5∧bQ nm co=true∧(0≤n∧n≤12)∧d=0∧ks = []∨op=6∧bQ nm co=true∧(1≤n∧n≤100)∧d=0∧ks = []∨op=7∧nm = []∧co=0∧(0≤n∧n≤10000)∧d=0∧ks = []∨
   op=8∧nm = []∧co=0∧bL.fine ⟨n,d⟩=true∧ks = []∨op=9∧bQ nm co=true∧n=0∧d=0∧ks = []):=by
 rw[aO,Bool.and_eq_true,Bool.and_eq_true,decide_eq_true_eq] at h;obtain ⟨⟨h1,h2⟩,h3⟩:=h;refine ⟨h1,h2,?_⟩
 split at h3
 ·rename_i h;simp only[Bool.and_eq_true,List.isEmpty_iff,beq_iff_eq] at h3;exact .inl ⟨h,h3.1.1.1,h3.1.1.2,h3.1.2,h3.2⟩
 split at h3
 ·rename_i h;simp only[Bool.and_eq_true,List.isEmpty_iff,beq_iff_eq,bM] at h3;exact .inr (.inl ⟨h,h3.1.1.1,h3.1.1.2,h3.1.2,h3.2⟩)
 split at h3
 ·rename_i h;simp only[Bool.and_eq_true,List.isEmpty_iff,beq_iff_eq] at h3;exact .inr (.inr (.inl ⟨h,h3.1.1.1.1,h3.1.1.1.2,h3.1.1.2,h3.1.2,h3.2⟩))
 split at h3
 ·rename_i h;simp only[Bool.and_eq_true,List.isEmpty_iff,beq_iff_eq,bM] at h3;exact .inr (.inr (.inr (.inl ⟨h,h3.1.1.1,h3.1.1.2,h3.1.2,h3.2⟩)))
 split at h3
 ·rename_i h;simp only[Bool.and_eq_true,List.isEmpty_iff,beq_iff_eq,bM] at h3;exact .inr (.inr (.inr (.inr (.inl ⟨h,h3.1.1.1,h3.1.1.2,h3.1.2,h3.2⟩))))
 split at h3
 ·rename_i h;simp only[Bool.and_eq_true,List.isEmpty_iff,beq_iff_eq,bM] at h3;exact .inr (.inr (.inr (.inr (.inr (.inl ⟨h,h3.1.1.1.1,h3.1.1.1.2,h3.1.1.2,h3.1.2,h3.2⟩)))))
 split at h3
 ·rename_i h;simp only[Bool.and_eq_true,List.isEmpty_iff,beq_iff_eq] at h3;exact .inr (.inr (.inr (.inr (.inr (.inr (.inl ⟨h,h3.1.1.1,h3.1.1.2,h3.1.2,h3.2⟩))))))
 split at h3
 ·rename_i h;simp only[Bool.and_eq_true,List.isEmpty_iff,beq_iff_eq] at h3;exact .inr (.inr (.inr (.inr (.inr (.inr (.inr ⟨h,h3.1.1.1,h3.1.1.2,h3.1.2,h3.2⟩))))))
 ·cases h3
theorem Ld {op:Int} (h:1≤op∧op≤9):oW ruleWords (av (ruleWords.getD (op - 1).toNat []))=some (op - 1).toNat:=by
 have:op=1∨op=2∨op=3∨op=4∨op=5∨op=6∨op=7∨op=8∨op=9:=by omega
 rcases this with rfl | rfl | rfl | rfl | rfl | rfl | rfl | rfl | rfl <;> decide
theorem mD {ks:List Rule} (h:ks.length=1):∃ r,ks = [r]:=by
 match ks,h with
 | [r],_=>exact ⟨r,rfl⟩
theorem Bu:∀ (k:Nat) (r:Rule),aO k r=true→∀ b,b < 200→∀ l m,dK l (aF r++m)→∃ s,rule last k b l = .ok r.un s∧dK s m
 | 0,r,h,_,_,_,_,_=>by cases r;simp[aO] at h
 | k+1,.mk op co nm n d ks,h,b,hb,l,m,hs=>by
  obtain ⟨hlen,hks,hop⟩:=qH h;have ih:∀ r∈ks,∀ b,b < 200→∀ l m,dK l (aF r++m)→∃ s,rule last k b l = .ok r.un s∧dK s m:=fun r hr=>Bu k r (jR hks r hr);have hr:1≤op∧op≤9:=by omega
  rw[aF] at hs;obtain ⟨r1,e1,s1⟩:=tF (last:=last) (Ld hr) hs;have hi:(((op - 1).toNat:Nat):Int)+1=op:=by omega
  rw[rule,e1,aD,hi];have hlim:¬ (b=200∨(op=4∧k=0)):=by
   rintro (h | ⟨h,hk⟩)
   ·omega
   ·subst hk
    rcases hop with h' | h' | h' | h' | h' | h' | h' | h' <;> try omega
    obtain ⟨q,rfl⟩:=mD h'.2.2.2.2.2;cases q;simp[dU,aO] at hks
  rw[if_neg hlim,Rule.un]
  rcases hop with ⟨h0 | h0,rfl,rfl,rfl,rfl⟩ | ⟨rfl,rfl,rfl,hn,rfl⟩ | ⟨rfl,rfl,rfl,rfl,rfl,h1⟩ | ⟨rfl,hrf,hn,rfl,rfl⟩ | ⟨rfl,hrf,hn,rfl,rfl⟩ | ⟨rfl,rfl,rfl,hn,rfl,rfl⟩ | ⟨rfl,rfl,rfl,hf,rfl⟩ | ⟨rfl,hrf,rfl,rfl,rfl⟩
  ·subst h0;have s2:dK r1 (bI 123::(bC ks++(bI 125::m))):=by simpa using s1
   obtain ⟨r2,e2,s3⟩:=gB (last:=last) s2;obtain ⟨r3,e3,s4⟩:=wB (last:=last) ks [] r2.length.succ r2 m (by simpa using hlen) (Nat.le_refl _) ih s3;refine ⟨r3,?_,s4⟩;unfold cB;simp only[show ¬ (1:Int)=4 by decide,show ¬ (1:Int)=5 by decide,show ¬ (1:Int)=6 by decide,show ¬ (1:Int)=7 by decide,show ¬ (1:Int)=8 by decide,show ¬ (1:Int)=9 by decide,show ¬ (1:Int)=3 by decide,if_false];rw[e2,aD,e3,aD];rfl
  ·subst h0;have s2:dK r1 (bI 123::(bC ks++(bI 125::m))):=by simpa using s1
   obtain ⟨r2,e2,s3⟩:=gB (last:=last) s2;obtain ⟨r3,e3,s4⟩:=wB (last:=last) ks [] r2.length.succ r2 m (by simpa using hlen) (Nat.le_refl _) ih s3;refine ⟨r3,?_,s4⟩;unfold cB;simp only[show ¬ (2:Int)=4 by decide,show ¬ (2:Int)=5 by decide,show ¬ (2:Int)=6 by decide,show ¬ (2:Int)=7 by decide,show ¬ (2:Int)=8 by decide,show ¬ (2:Int)=9 by decide,show ¬ (2:Int)=3 by decide,if_false];rw[e2,aD,e3,aD];rfl
  ·have s2:dK r1 (aW n::bI 123::(bC ks++(bI 125::m))):=by simpa using s1
   obtain ⟨r0,e0,s2⟩:=dR (last:=last) (lo:=0) (hi:=200) hn.1 hn.2 s2;obtain ⟨r2,e2,s3⟩:=gB (last:=last) s2;obtain ⟨r3,e3,s4⟩:=wB (last:=last) ks [] r2.length.succ r2 m (by simpa using hlen) (Nat.le_refl _) ih s3;refine ⟨r3,?_,s4⟩;unfold cB;simp only[show ¬ (3:Int)=4 by decide,show ¬ (3:Int)=5 by decide,show ¬ (3:Int)=6 by decide,show ¬ (3:Int)=7 by decide,show ¬ (3:Int)=8 by decide,show ¬ (3:Int)=9 by decide,if_false,if_true];rw[e0,aD,e2,aD,e3,aD];rfl
  ·obtain ⟨q,rfl⟩:=mD h1;have s2:dK r1 (aF q++m):=by simpa [tZ] using s1
   obtain ⟨r2,e2,s3⟩:=ih q (by simp) 0 (by omega) _ _ s2;refine ⟨r2,?_,s3⟩;unfold cB;simp only[if_true];rw[e2,aD,dJ,dJ];rfl
  ·have s2:dK r1 (fO nm co++(aW n::m)):=by simpa using s1
   obtain ⟨r2,e2,s3⟩:=rU (last:=last) hrf s2;obtain ⟨r3,e3,s4⟩:=dR (last:=last) (lo:=0) (hi:=12) hn.1 hn.2 s3;refine ⟨r3,?_,s4⟩;unfold cB;simp only[show ¬ (5:Int)=4 by decide,if_false,if_true];rw[e2,aD,e3,aD,dJ]
  ·have s2:dK r1 (fO nm co++(aW n::m)):=by simpa using s1
   obtain ⟨r2,e2,s3⟩:=rU (last:=last) hrf s2;obtain ⟨r3,e3,s4⟩:=dR (last:=last) (lo:=1) (hi:=100) hn.1 hn.2 s3;refine ⟨r3,?_,s4⟩;unfold cB;simp only[show ¬ (6:Int)=4 by decide,show ¬ (6:Int)=5 by decide,if_false,if_true];rw[e2,aD,e3,aD,dJ]
  ·have s2:dK r1 (aW n::m):=by simpa using s1
   obtain ⟨r3,e3,s4⟩:=dR (last:=last) (lo:=0) (hi:=10000) hn.1 hn.2 s2;refine ⟨r3,?_,s4⟩;unfold cB;simp only[show ¬ (7:Int)=4 by decide,show ¬ (7:Int)=5 by decide,show ¬ (7:Int)=6 by decide,if_false,if_true];rw[e3,aD,dJ];rfl
  ·have s2:dK r1 (bO ⟨n,d⟩++m):=by simpa using s1
   obtain ⟨r3,e3,s4⟩:=xY (last:=last) hf s2;refine ⟨r3,?_,s4⟩;unfold cB;simp only[show ¬ (8:Int)=4 by decide,show ¬ (8:Int)=5 by decide,show ¬ (8:Int)=6 by decide,show ¬ (8:Int)=7 by decide,if_false,if_true];rw[e3,aD,dJ];rfl
  ·have s2:dK r1 (fO nm co++m):=by simpa using s1
   obtain ⟨r3,e3,s4⟩:=rU (last:=last) hrf s2;refine ⟨r3,?_,s4⟩;unfold cB;simp only[show ¬ (9:Int)=4 by decide,show ¬ (9:Int)=5 by decide,show ¬ (9:Int)=6 by decide,show ¬ (9:Int)=7 by decide,show ¬ (9:Int)=8 by decide,if_false,if_true];rw[e3,aD,dJ]
end Go.Proofs.YtjonaidancomgaaGreatDoor.Sx
namespace Go.Proofs.YtjonaidancomgaaGreatDoor
open Go.RowKit
structure PI (g : Nat) (l : List Lx.Tok) (w0 w : World) : Prop where
 st:iq g l w
 aY:Below g w0 w
 kp:KP w0 w
def uD (g:Nat) (l:List Lx.Tok) (w0:World) (e:Ending) (w':World):Prop:=e = .returned (.tuple #[])∧PI g l w0 w'
theorem PI.start {g:Nat} {l:List Lx.Tok} {w:World} (h:iq g l w):PI g l w w:=⟨h,Below.refl _ _,KP.refl _⟩
theorem PI.next {g:Nat} {l:List Lx.Tok} {w0 w w':World} (h:PI g l w0 w) (hb:Below w.heap.size w w'):PI g l w0 w':=
 ⟨h.st.next hb,h.aY.trans (hb.mono (Nat.le_of_lt h.st.lt)),h.kp.trans (KP.below hb)⟩
theorem PI.post {g:Nat} {l ts:List Lx.Tok} {w0 w w':World} {e:Ending} (h:PI g l w0 w) (ht:jh g l ts w e w'):uD g (l++ts) w0 e w':=
 ⟨ht.1,ht.2.1,h.aY.trans ht.2.2.1,h.kp.trans ht.2.2.2⟩
theorem PI.blk {g:Nat} {l:List Lx.Tok} {w0 w:World} (h:PI g l w0 w) {b:Nat} {t:TypeId} {cs:Array Value} (hb:aC w0 b t cs) (h1:t≠55) (h2:t≠110):aC w b t cs:=h.kp.blk hb h1 h2
theorem eD.later {g:Nat} {w w':World} {r:Sx.Rule} {cs:List Value} (h:eD g w r cs) (hb:Below g w w'):eD g w' r cs:=
 ⟨h.1,fun l W hW hB hl=>h.2 l W hW (hb.trans hB) hl⟩
theorem PI.put {g:Nat} {l:List Lx.Tok} {w0 w:World} (h:PI g l w0 w) (its:List dN) {cs:Array Value} {n b:Nat} {ts:List Lx.Tok} (hb0:b=w.heap.size) (hcs:cs=(its.map dN.val).toArray) (hn:n=its.length) (hts:its.flatMap dN.toks=ts) (hn1:n≤100) (hlen:l.length+ts.length≤60000)
  (Dk:∀ r c,dN.rule r c∈its→eD g w0 r c) :
  Calls Tryz.prog 50 #[.pointer (some ⟨g,0,none⟩),.slice (some ⟨b,0,none⟩) n n] (w.alloc (.cells cs 20)) (uD g (l++ts) w0):=by
 subst hb0;subst hcs;subst hn;subst hts;have hb:Below w.heap.size w (w.alloc (.cells (its.map dN.val).toArray 20)):=(Below.refl _ _).alloc (Nat.le_refl _) _;have h1:=h.next hb;exact (q0h g its l w.heap.size _ h1.st (aC.new _ _ _) hn1 hlen (fun r c hr=>(Dk r c hr).later h1.aY)).mono fun e w' he=>h1.post he
set_option maxRecDepth 20000 in
set_option maxHeartbeats 2000000 in
theorem q0l (g:Nat) (nm:List UInt8) (n:Int) (l:List Lx.Tok) (w:World) (h:iq g l w) (hlen:l.length+(Sx.fO nm n).length≤60000) :
  Calls Tryz.prog 51 #[.pointer (some ⟨g,0,none⟩),.string (Lx.bs nm),.int .i64 n] w (jh g l (Sx.fO nm n) w):=by
 have H:=Lh (PI.start h);have hbs:((Lx.bs nm).toList == (⟨#[]⟩:ByteArray).toList)=nm.isEmpty:=by rw [ByteArray.toList_eq,ByteArray.toList_eq,Lx.aK];cases nm <;> rfl
 have fH:(Lx.bs nm).toList.isEmpty=nm.isEmpty:=by rw [ByteArray.toList_eq,Lx.aK]
 clear h;cases q:nm.isEmpty with
 | true=>
  rw[q] at hbs fH;have ht:Sx.fO nm n = [Sx.bI 35,Sx.aW n]:=by unfold Sx.fO;rw[q];rfl
  rw[ht] at hlen;simp at hlen;have Ht:=Lh ht;clear ht;go_enter Tryz.func51,Tryz.ntmps51;go_wp2_with fail;refine (H.out.put [.sign [35],.num n] (ts:=[Sx.bI 35,Sx.aW n]) rfl rfl rfl rfl (by simp) (by simp;omega) (by simp)).mono ?_;rintro e w1 ⟨rfl,h1⟩;have H1:=Lh h1;clear h1;go_wp2_with fail
  go_end0
  exact ⟨rfl,by rw [Ht.out];exact H1.out.st,H1.out.aY,H1.out.kp⟩
 | false=>
  rw[q] at hbs fH;have ht:Sx.fO nm n = [Sx.av nm]:=by unfold Sx.fO;rw[q];rfl
  rw[ht] at hlen;simp at hlen;have Ht:=Lh ht;clear ht;go_enter Tryz.func51,Tryz.ntmps51;go_wp2_with fail;refine (H.out.put [.name nm] (ts:=[Sx.av nm]) rfl rfl rfl rfl (by simp) (by simp;omega) (by simp)).mono ?_;rintro e w1 ⟨rfl,h1⟩;have H1:=Lh h1;clear h1;go_wp2_with fail
  go_end0
  exact ⟨rfl,by rw [Ht.out];exact H1.out.st,H1.out.aY,H1.out.kp⟩
theorem PI.ref {g:Nat} {l:List Lx.Tok} {w0 w:World} (h:PI g l w0 w) (nm:List UInt8) (n:Int) (hlen:l.length+(Sx.fO nm n).length≤60000) :
  Calls Tryz.prog 51 #[.pointer (some ⟨g,0,none⟩),.string (Lx.bs nm),.int .i64 n] w (uD g (l++Sx.fO nm n) w0):=
 (q0l g nm n l w h.st hlen).mono fun _e _w' he=>h.post he
theorem PI.rule {g:Nat} {l:List Lx.Tok} {w0 w:World} (h:PI g l w0 w) {r:Sx.Rule} {cs:List Value} (hr:eD g w0 r cs) (hlen:l.length+(Sx.aF r).length≤60000) :
  Calls Tryz.prog 58 #[.pointer (some ⟨g,0,none⟩),.agg cs.toArray] w (uD g (l++Sx.aF r) w0):=
 (hr.2 l w h.st h.aY hlen).mono fun _e _w' he=>h.post he
theorem AL {w:World} {b:Nat} {t:TypeId} {v0 v1:Value} (h:aC w b t #[v0,v1]):w.cell? ⟨b,0,none⟩=some v0∧w.cell? ⟨b,1,none⟩=some v1∧b < w.heap.size:=
 ⟨(h.cell 0).trans rfl,(h.cell 1).trans rfl,h.lt⟩
theorem fB {w:World} {b:Nat} {t:TypeId} {v0 v1 v2 v3:Value} (h:aC w b t #[v0,v1,v2,v3]):w.cell? ⟨b,0,none⟩=some v0∧w.cell? ⟨b,1,none⟩=some v1∧w.cell? ⟨b,2,none⟩=some v2∧w.cell? ⟨b,3,none⟩=some v3∧b < w.heap.size:=
 ⟨(h.cell 0).trans rfl,(h.cell 1).trans rfl,(h.cell 2).trans rfl,(h.cell 3).trans rfl,h.lt⟩
theorem aQ {w:World} {b:Nat} {t:TypeId} {v0 v1 v2 v3 v4 v5:Value} (h:aC w b t #[v0,v1,v2,v3,v4,v5]):w.cell? ⟨b,0,none⟩=some v0∧w.cell? ⟨b,1,none⟩=some v1∧w.cell? ⟨b,2,none⟩=some v2∧w.cell? ⟨b,3,none⟩=some v3∧w.cell? ⟨b,4,none⟩=some v4∧w.cell? ⟨b,5,none⟩=some v5∧b < w.heap.size:=
 ⟨(h.cell 0).trans rfl,(h.cell 1).trans rfl,(h.cell 2).trans rfl,(h.cell 3).trans rfl,(h.cell 4).trans rfl,(h.cell 5).trans rfl,h.lt⟩
theorem bJ {w:World} {b:Nat} {t:TypeId} {v0 v1 v2 v3 v4 v5 v6:Value} (h:aC w b t #[v0,v1,v2,v3,v4,v5,v6]):w.cell? ⟨b,0,none⟩=some v0∧w.cell? ⟨b,1,none⟩=some v1∧w.cell? ⟨b,2,none⟩=some v2∧w.cell? ⟨b,3,none⟩=some v3∧w.cell? ⟨b,4,none⟩=some v4∧w.cell? ⟨b,5,none⟩=some v5∧w.cell? ⟨b,6,none⟩=some v6∧b < w.heap.size:=
 ⟨(h.cell 0).trans rfl,(h.cell 1).trans rfl,(h.cell 2).trans rfl,(h.cell 3).trans rfl,(h.cell 4).trans rfl,(h.cell 5).trans rfl,(h.cell 6).trans rfl,h.lt⟩
theorem fM {w:World} {b:Nat} {t:TypeId} {v0 v1 v2 v3 v4 v5 v6 v7 v8 v9 v10 v11 v12 v13 v14 v15:Value} (h:aC w b t #[v0,v1,v2,v3,v4,v5,v6,v7,v8,v9,v10,v11,v12,v13,v14,v15]):w.cell? ⟨b,0,none⟩=some v0∧w.cell? ⟨b,1,none⟩=some v1∧w.cell? ⟨b,2,none⟩=some v2∧w.cell? ⟨b,3,none⟩=some v3∧w.cell? ⟨b,4,none⟩=some v4∧w.cell? ⟨b,5,none⟩=some v5∧w.cell? ⟨b,6,none⟩=some v6∧w.cell? ⟨b,7,none⟩=some v7∧w.cell? ⟨b,8,none⟩=some v8∧w.cell? ⟨b,9,none⟩=some v9∧w.cell? ⟨b,10,none⟩=some v10∧w.cell? ⟨b,11,none⟩=some v11∧w.cell? ⟨b,12,none⟩=some v12∧w.cell? ⟨b,13,none⟩=some v13∧w.cell? ⟨b,14,none⟩=some v14∧w.cell? ⟨b,15,none⟩=some v15∧b < w.heap.size:=
 ⟨(h.cell 0).trans rfl,(h.cell 1).trans rfl,(h.cell 2).trans rfl,(h.cell 3).trans rfl,(h.cell 4).trans rfl,(h.cell 5).trans rfl,(h.cell 6).trans rfl,(h.cell 7).trans rfl,(h.cell 8).trans rfl,(h.cell 9).trans rfl,(h.cell 10).trans rfl,(h.cell 11).trans rfl,(h.cell 12).trans rfl,(h.cell 13).trans rfl,(h.cell 14).trans rfl,(h.cell 15).trans rfl,h.lt⟩
theorem oQ {w:World} {b:Nat} {t:TypeId} {cs:Array Value} (h:aC w b t cs):w.frozen? ⟨b,0,none⟩=false∧w.frozen? ⟨b,1,none⟩=false∧w.frozen? ⟨b,2,none⟩=false∧w.frozen? ⟨b,3,none⟩=false∧w.frozen? ⟨b,4,none⟩=false∧w.frozen? ⟨b,5,none⟩=false:=⟨h.free 0,h.free 1,h.free 2,h.free 3,h.free 4,h.free 5⟩
end Go.Proofs.YtjonaidancomgaaGreatDoor
