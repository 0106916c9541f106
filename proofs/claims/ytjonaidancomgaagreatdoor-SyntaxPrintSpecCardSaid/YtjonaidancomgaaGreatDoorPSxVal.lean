/- Parts of the proof, joined into one text: q1V, q1W, q1X, q1Y, q05, XR. -/
import Derived.Test.YtjonaidancomgaaGreatDoorPSxGiv
import Derived.Test.YtjonaidancomgaaGreatDoorPSxPut
import Derived.Test.YtjonaidancomgaaGreatDoorPSxPrT
import Derived.Test.YtjonaidancomgaaGreatDoorPSxPrQ
set_option maxHeartbeats 8000000
set_option maxRecDepth 20000
namespace Go.Proofs.YtjonaidancomgaaGreatDoor.Sx
theorem eU {x:List UInt8} (h:Lx.isName x=true):Lx.valid (av x)=true:=by simp [Lx.valid,av,h]
theorem jW {n:Int} (h0:0≤n) (h1:n≤12000):Lx.valid (aW n)=true:=by
 unfold Lx.valid aW;rw[if_neg (by simp),if_pos rfl];simp only[List.isEmpty_nil,Bool.true_and,Bool.and_eq_true,decide_eq_true_eq];exact ⟨h0,by omega⟩
theorem tK {c:UInt8} (h:Lx.sign c=true):Lx.valid (bI c)=true:=by simp [Lx.valid,bI,h]
theorem Vs.nil:Vs []:=fun t h=>by simp at h
theorem Vs.cons {t:Lx.Tok} {l:List Lx.Tok} (h:Lx.valid t=true) (hl:Vs l):Vs (t::l):=fun x hx=>by
 rcases List.mem_cons.1 hx with rfl | hx
 ·exact h
 ·exact hl x hx
theorem Vs.app {a b:List Lx.Tok} (ha:Vs a) (hb:Vs b):Vs (a++b):=fun x hx=>by
 rcases List.mem_append.1 hx with hx | hx
 ·exact ha x hx
 ·exact hb x hx
theorem Vs.flat {α:Type} {f:α→List Lx.Tok} : ∀ {xs:List α},(∀ x∈xs,Vs (f x))→Vs (xs.flatMap f)
 | [],_=>by simpa using Vs.nil
 | x::xs,h=>by
  rw[List.flatMap_cons];exact (h x (by simp)).app (Vs.flat fun y hy=>h y (by simp [hy]))
theorem rW {s:List UInt8} {n:Int} (h:bQ s n=true):Vs (fO s n):=by
 unfold bQ at h;rw[Bool.and_eq_true,bM,Bool.or_eq_true] at h;unfold fO
 split
 ·exact .cons (tK (by decide)) (.cons (jW h.1.1 (by omega)) .nil)
 ·rename_i hs
  rcases h.2 with h2 | h2
  ·exact absurd h2 hs
  ·exact .cons (eU h2) .nil
theorem yw {x:bL} (h:x.fine=true):Vs (bO x):=by
 unfold bL.fine at h;simp only[Bool.and_eq_true,decide_eq_true_eq] at h;exact .cons (jW (by omega) (by omega)) (.cons (tK (by decide)) (.cons (jW (by omega) (by omega)) .nil))
theorem Fe {op:Int} (h:1≤op∧op≤9):Lx.valid (av (ruleWords.getD (op - 1).toNat []))=true:=by
 have:op=1∨op=2∨op=3∨op=4∨op=5∨op=6∨op=7∨op=8∨op=9:=by omega
 rcases this with rfl | rfl | rfl | rfl | rfl | rfl | rfl | rfl | rfl <;> decide
theorem Gu:∀ {ks:List Rule},(∀ r∈ks,Vs (aF r))→Vs (bC ks)
 | [],_=>by rw [bC];exact .nil
 | r::rs,h=>by
  rw[bC];exact (h r (by simp)).app (.cons (tK (by decide)) (Gu fun y hy=>h y (by simp [hy])))
theorem pX:∀ (k:Nat) (r:Rule),aO k r=true→Vs (aF r)
 | 0,r,h=>by cases r;simp[aO] at h
 | k+1,.mk op co nm n d ks,h=>by
  obtain ⟨h1,h2,h3⟩:=qH h;have hk:∀ r∈ks,Vs (aF r):=fun r hr=>pX k r (jR h2 r hr);have hb:Vs (bI 123::(bC ks++[bI 125])):=.cons (tK (by decide)) ((Gu hk).app (.cons (tK (by decide)) .nil));rw[aF];refine .cons (Fe (by omega)) ?_
  rcases h3 with ⟨ho,rfl,rfl,rfl,rfl⟩ | ⟨rfl,rfl,rfl,hn,rfl⟩ | ⟨rfl,rfl,rfl,rfl,rfl,hl⟩ | ⟨rfl,hr,hn,rfl,rfl⟩ | ⟨rfl,hr,hn,rfl,rfl⟩ | ⟨rfl,rfl,rfl,hn,rfl,rfl⟩ | ⟨rfl,rfl,rfl,hf,rfl⟩ | ⟨rfl,hr,rfl,rfl,rfl⟩
  ·rcases ho with rfl | rfl <;> exact hb
  ·exact .cons (jW hn.1 (by omega)) hb
  ·obtain ⟨r,rfl⟩:=mD hl;exact hk r (by simp)
  ·exact (rW hr).app (.cons (jW hn.1 (by omega)) .nil)
  ·exact (rW hr).app (.cons (jW (by omega) (by omega)) .nil)
  ·exact .cons (jW hn.1 (by omega)) .nil
  ·exact yw hf
  ·exact rW hr
theorem pU {c:Prop} [Decidable c] {l:List Lx.Tok} (h:c→Vs l):Vs (if c then l else []):=by
 split
 ·rename_i hc;exact h hc
 ·exact .nil
theorem Je {x:Course} (h:dw x=true):Vs (bP x):=by
 unfold dw at h;simp only[Bool.and_eq_true,bM] at h;obtain ⟨⟨⟨⟨⟨h1,h2⟩,h3⟩,h4⟩,h5⟩,h6⟩:=h;have hw:x.rep≠0→Lx.valid (av (repeatWords.getD x.rep.toNat []))=true:=fun hz=>by
  have:x.rep=1∨x.rep=2:=by omega
  rcases this with e | e <;> rw [e] <;> decide
 have hs:∀ c,Lx.sign c=true→Vs [bI c]:=fun c hc=>.cons (tK hc) .nil;unfold bP;exact ((((Vs.app (.cons (eU (by decide)) (.cons (jW h1.1 (by omega)) (.cons (eU h2) (.cons (jW (by omega) (by omega)) .nil)))) (pU fun hz=>.cons (hw hz) .nil)).app (hs _ (by decide))).app
  (pU fun _=>.cons (eU (by decide)) ((pX _ _ h5).app (hs _ (by decide))))).app (pU fun _=>.cons (eU (by decide)) ((pX _ _ h6).app (hs _ (by decide))))).app (hs _ (by decide))
theorem OO {x:Pair} (h:gW x=true):Vs (pairT x):=by
 unfold gW at h;rw[Bool.and_eq_true] at h;exact .cons (eU (by decide)) ((rW h.1).app (.cons (tK (by decide)) ((rW h.2).app (.cons (tK (by decide)) .nil))))
theorem Gv:∀ {l:List (List UInt8 × Int)},(∀ p∈l,bQ p.1 p.2=true)→Vs (dF l)
 | [],_=>.nil
 | [p],h=>rW (h p (by simp))
 | p::q::r,h=>(rW (h p (by simp))).app (.cons (tK (by decide)) (Gv fun y hy=>h y (by simp [hy])))
theorem SK {x:iK} (h:fG x=true):Vs (gL x):=by
 unfold fG at h;simp only[Bool.and_eq_true,bM,List.all_eq_true] at h;obtain ⟨⟨⟨⟨⟨h1,h2⟩,h3⟩,h4⟩,h5⟩,h6⟩:=h;unfold gL;exact (((Vs.app (.cons (eU (by decide)) (.cons (eU h1) (.cons (jW (by omega) (by omega)) (.cons (eU (by decide)) .nil)))) (Gv h6)).app (pU fun _=>.cons (eU (by decide)) (.cons (jW h3.1 (by omega)) .nil))).app (pU fun _=>.cons (eU (by decide)) .nil)).app (.cons (tK (by decide)) .nil)
theorem OP {x:Prog} (h:dW x=true):Vs (eB x):=by
 unfold dW at h;simp only[Bool.and_eq_true,bM,List.all_eq_true,decide_eq_true_eq] at h;obtain ⟨⟨⟨⟨⟨⟨h1,h2⟩,h3⟩,h4⟩,h5⟩,h6⟩,h7⟩:=h;have hs:∀ c,Lx.sign c=true→Vs [bI c]:=fun c hc=>.cons (tK hc) .nil;unfold eB;exact ((((Vs.app (.cons (eU (by decide)) (.cons (jW h1.1 (by omega)) (.cons (eU h2) (hs _ (by decide))))) (pU fun _=>.cons (eU (by decide)) (.cons (jW (by omega) (by omega)) (hs _ (by decide))))).app
  (pU fun _=>.cons (eU (by decide)) (.cons (jW (by omega) (by omega)) (hs _ (by decide))))).app (pU fun _=>.cons (eU (by decide)) ((yw h5).app (hs _ (by decide))))).app (.flat fun q hq=>SK (h7 q hq))).app (hs _ (by decide))
theorem LK {w:List UInt8} (hw:Lx.isName w=true) {x:Cls} (h:fT x=true):Vs (fu w x):=by
 unfold fT at h;simp only[Bool.and_eq_true,bM] at h;unfold fu;exact (Vs.app (.cons (eU hw) (.cons (eU h.1.1) (.cons (jW h.1.2.1 (by omega)) (.cons (eU (by decide)) .nil)))) (yw h.2)).app (.cons (tK (by decide)) .nil)
theorem SL {x:tL} (h:jo x=true):Vs (jy x):=by
 unfold jo at h;simp only[Bool.and_eq_true,bM] at h;exact .cons (eU (by decide)) (.cons (eU h.1) (.cons (jW h.2.1 (by omega)) (.cons (tK (by decide)) .nil)))
theorem Jf {x:Clause} (h:dL x=true):Vs (dI x):=by
 unfold dL at h;simp only[Bool.and_eq_true,bM] at h;obtain ⟨⟨⟨h1,h2⟩,h3⟩,h4⟩:=h;have k1:Lx.isName (kindWords.getD (x.kind - 1).toNat [])=true:=by
  have:x.kind=1∨x.kind=2∨x.kind=3∨x.kind=4∨x.kind=5:=by omega
  rcases this with e | e | e | e | e <;> rw [e] <;> decide
 have k2:Lx.isName (whenWords.getD x.gH.toNat [])=true:=by
  have:x.gH=0∨x.gH=1∨x.gH=2:=by omega
  rcases this with e | e | e <;> rw [e] <;> decide
 have k3:Lx.isName (actionWords.getD (x.action - 1).toNat [])=true:=by
  have:x.action=1∨x.action=2∨x.action=3:=by omega
  rcases this with e | e | e <;> rw [e] <;> decide
 exact .cons (eU (by decide)) (.cons (eU k1) (.cons (eU k2) (.cons (eU k3) (.cons (eU (by decide)) (.cons (jW h4.1 (by omega)) (.cons (tK (by decide)) .nil))))))
theorem Ae {c:dh} (h:eX c=true):Vs (gQ c):=by
 unfold eX at h;simp only[Bool.and_eq_true,List.all_eq_true] at h;obtain ⟨⟨⟨⟨⟨⟨h1,h2⟩,h3⟩,h4⟩,h5⟩,h6⟩,h7⟩:=h;unfold gQ;exact ((((((Vs.flat fun x hx=>Je (h1 x hx)).app (.flat fun x hx=>OO (h2 x hx))).app (.flat fun x hx=>OP (h3 x hx))).app (.flat fun x hx=>LK (by decide) (h4 x hx))).app (.flat fun x hx=>SL (h5 x hx))).app (.flat fun x hx=>LK (by decide) (h6 x hx))).app (.flat fun x hx=>Jf (h7 x hx))
theorem Vs.text {l:List Lx.Tok} (h:Vs l):Lx.text l=some (Lx.dB (l.map Lx.Tok.out)):=by
 unfold Lx.text;rw[if_pos (List.all_eq_true.2 h)]
theorem lQ {t:Lx.Tok} (h:Lx.valid t=true):t.text.length≤65536:=by
 unfold Lx.valid at h
 split at h
 ·rw[Bool.and_eq_true] at h;obtain ⟨_,_,_,_,_,hl⟩:=Lx.pO h.1;omega
 ·split at h
  ·simp only[Bool.and_eq_true,List.isEmpty_iff] at h;rw[h.1.1];simp
  ·split at h
   ·rw[Bool.and_eq_true] at h;have h1:=h.1
    split at h1
    ·rename_i hc;rw[hc];simp
    ·cases h1
   ·cases h
theorem dK.of_same:∀ {l m:List Lx.Tok},Lx.same l m=true→dK m l
 | [],[],_=>rfl
 | a::r,b::s,h=>by
  simp only[Lx.same,Lx.Fy,Bool.and_eq_true,beq_iff_eq] at h;have:=dK.of_same h.2;unfold dK at this ⊢;simp only[List.map_cons,List.cons.injEq];refine ⟨?_,this⟩;simp[core,h.1.1.1,h.1.1.2,h.1.2]
 | [],_::_,h=>by simp [Lx.same] at h
 | _::_,[],h=>by simp [Lx.same] at h
theorem Fg {c:dh} (h:eX c=true) {s:List UInt8} (hs:Lx.text (gQ c)=some s) (hl:s.length≤65536):parse s = .ok c.un:=by
 obtain ⟨m,h1,h2⟩:=Lx.Lb hs;unfold parse dS;rw[if_neg (by omega),h1];simp only;rw[Sg (last:=s.length) h (.of_same h2)];rfl
theorem kV:∀ (k u:Nat),1≤k→u < 10 ^ k→(Lib.decDigits u).length≤k
 | 0,_,h,_=>by omega
 | k+1,u,_,h=>by
  by_cases hu:u < 10
  ·rw[Lib.decDigits,dif_pos hu];simp
  ·rw[Lib.decDigits,dif_neg hu];have hk:1≤k:=by
    rcases Nat.eq_zero_or_pos k with h0 | h0
    ·subst h0;simp at h;omega
    ·exact h0
   have h1:u / 10 < 10 ^ k:=Nat.div_lt_of_lt_mul (by rw [Nat.pow_succ] at h;omega);have:=kV k (u / 10) hk h1;simp only[List.length_append,List.length_cons,List.length_nil];omega
theorem Gw {t:Lx.Tok} (h:Lx.valid t=true):t.out.length≤32:=by
 unfold Lx.Tok.out;unfold Lx.valid at h
 split at h
 ·rename_i h1;rw[if_neg (by omega)];rw[Bool.and_eq_true] at h;obtain ⟨_,_,_,_,_,hl⟩:=Lx.pO h.1;exact hl
 ·split at h
  ·rename_i h1;rw[if_pos h1];simp only[Bool.and_eq_true,decide_eq_true_eq] at h;exact Nat.le_trans (kV 13 _ (by decide) (by omega)) (by decide)
  ·rename_i h1;rw[if_neg h1]
   split at h
   ·rw[Bool.and_eq_true] at h;have h2:=h.1
    split at h2
    ·rename_i hc;rw[hc];simp
    ·cases h2
   ·cases h
theorem DF:∀ {l:List Lx.Tok},Vs l→(Lx.dB (l.map Lx.Tok.out)).length≤33*l.length
 | [],_=>by simp [Lx.dB]
 | [t],h=>by
  have:=Gw (h t (by simp));simp[Lx.dB];omega
 | t::u::r,h=>by
  have h1:=Gw (h t (by simp));have h2:=DF (l:=u::r) fun x hx=>h x (by simp [hx]);simp only[List.map_cons,Lx.dB,List.length_append,List.length_cons] at h2 ⊢;omega
theorem again {src:List UInt8} {c:dh} (h:parse src = .ok c) (hl:src.length≤3000):eX c=true∧c.un=c∧(gQ c).length≤60000∧(∀ t∈gQ c,t.text.length≤65536)∧∃ s,Lx.text (gQ c)=some s∧s.length≤100000∧(s.length≤65536→parse s = .ok c):=by
 obtain ⟨h1,h2⟩:=EI h;have hv:=Ae h1;have hz:=EJ h;refine ⟨h1,h2,by omega,fun t ht=>lQ (hv t ht),_,hv.text,?_,fun hs=>?_⟩
 ·have:=DF hv;omega
 ·have:=Fg h1 hv.text hs
  rwa [h2] at this
end Go.Proofs.YtjonaidancomgaaGreatDoor.Sx
namespace Go.Proofs.YtjonaidancomgaaGreatDoor.Sx
open Lx (Tok)
def rM (f:Rule→Nat):Nat→List Rule→Nat
 | n,[]=>n
 | n,k::ks=>if n < 300 then rM f (n+f k) ks else n
def cnt:Nat→Rule→Nat
 | 0,_=>300
 | g+1,r=>if 300 < r.kids.length then 300 else rM (cnt g) 1 r.kids
def Rule.name:Rule→List UInt8 | .mk _ _ s _ _ _=>s
def iQ (r:Rule):Bool:=decide (cnt 41 r < 250) && decide (r.name.length≤100)
def uw (q:iK):Bool:=decide (q.names.length≤20)
def iD (p:Prog):Bool:=decide (p.reqs.length≤70) && p.reqs.all uw
def fP (x:Course):Bool:=iQ x.need && iQ x.bar
def rO (c:dh):Bool:=decide (c.courses.length≤8) && decide (c.same.length≤8) && decide (c.aS.length≤4) && decide (c.classes.length+c.bZ.length+c.aJ.length+c.clauses.length≤20)
def few (c:dh):Bool:=rO c && c.courses.all fP && c.aS.all iD
theorem Gx {f:Rule→Nat} {B:Nat} (hf:∀ r,f r≤B):∀ (ks:List Rule) (n:Nat),n≤300+B→rM f n ks≤300+B
 | [],n,h=>by simpa [rM] using h
 | k::ks,n,h=>by
  rw[rM]
  split
  ·exact Gx hf ks _ (by have:=hf k;omega)
  ·exact h
theorem EF:∀ (g:Nat) (r:Rule),cnt g r≤300*(g+1)
 | 0,_=>Nat.le_of_eq (by rw [cnt])
 | g+1,r=>by
  rw[cnt];have h1:=Gx (EF g) r.kids 1 (Nat.le_add_right_of_le (by decide));have h2:300+300*(g+1)=300*(g+1+1):=by rw [Nat.mul_succ 300 (g+1),Nat.add_comm]
  rw[h2] at h1
  by_cases h:300 < r.kids.length
  ·rw[if_pos h];exact Nat.le_mul_of_pos_right _ (Nat.succ_pos _)
  ·rw[if_neg h];exact h1
theorem Gy {f:Rule→Nat} : ∀ (ks:List Rule) (n:Nat),rM f n ks < 300→(∀ k∈ks,f k < 300)∧rM f n ks=n+(ks.map f).sum
 | [],n,_=>by simp [rM]
 | k::ks,n,h=>by
  rw[rM] at h ⊢
  split at h
  ·rename_i hn;obtain ⟨h1,h2⟩:=Gy ks _ h;rw[if_pos hn,h2];refine ⟨fun y hy=>?_,by simp;omega⟩
   rcases List.mem_cons.1 hy with rfl | hy
   ·omega
   ·exact h1 y hy
  ·omega
theorem Ad {g:Nat} : ∀ {ks:List Rule},(∀ k∈ks,(aF k).length+1≤5*cnt g k)→(bC ks).length≤5*(ks.map (cnt g)).sum
 | [],_=>by simp [bC]
 | k::ks,h=>by
  have h1:=h k (by simp);have h2:=Ad (g:=g) (ks:=ks) fun y hy=>h y (by simp [hy]);simp only[bC,List.length_append,List.length_cons,List.map_cons,List.sum_cons];omega
theorem pV (s:List UInt8) (n:Int):(fO s n).length≤2:=by unfold fO;split <;> simp
theorem LM:∀ (ks:List Rule),(tZ ks).length≤(bC ks).length
 | []=>by simp [tZ]
 | k::ks=>by simp [tZ,bC]
theorem yx:∀ (g:Nat) (r:Rule),cnt g r < 300→(aF r).length+1≤5*cnt g r
 | 0,_,h=>by simp [cnt] at h
 | g+1,.mk op co nm n d ks,h=>by
  rw[cnt] at h ⊢;have hl:¬ 300 < ks.length:=fun hl=>by
   rw[if_pos (show 300 < (Rule.mk op co nm n d ks).kids.length from hl)] at h;omega
  rw[if_neg (show ¬ 300 < (Rule.mk op co nm n d ks).kids.length from hl)] at h ⊢;simp only[Rule.kids] at h ⊢;obtain ⟨h1,h2⟩:=Gy ks 1 h;rw[h2] at h ⊢;have h3:=Ad (g:=g) (ks:=ks) fun k hk=>yx g k (h1 k hk);have h4:=pV nm co;have h5:=LM ks;rw[aF]
  split
  ·simp only[List.length_cons];omega
  split
  ·simp only[List.length_cons,List.length_append,List.length_nil];omega
  split
  ·simp only[List.length_cons,List.length_nil];omega
  split
  ·simp only[bO,List.length_cons,List.length_nil];omega
  split
  ·simp only[List.length_cons];omega
  split
  ·simp only[List.length_cons,List.length_append,List.length_nil];omega
  ·simp only[List.length_cons,List.length_append,List.length_nil];omega
theorem mZ {r:Rule} (h:iQ r=true):(aF r).length≤1250:=by
 unfold iQ at h;simp only[Bool.and_eq_true,decide_eq_true_eq] at h;have:=yx 41 r (by omega);omega
theorem jk {α:Type} {f:α→List Tok} {B:Nat} : ∀ {xs:List α},(∀ x∈xs,(f x).length≤B)→(xs.flatMap f).length≤xs.length*B
 | [],_=>by simp
 | x::xs,h=>by
  have h1:=h x (by simp);have h2:=jk (f:=f) (B:=B) (xs:=xs) fun y hy=>h y (by simp [hy]);simp only[List.flatMap_cons,List.length_append,List.length_cons,Nat.succ_mul];omega
theorem jX {c:Prop} [Decidable c] {l:List Tok} {B:Nat} (h:l.length≤B):(if c then l else []).length≤B:=by
 by_cases hc:c
 ·rw[if_pos hc];exact h
 ·rw[if_neg hc];simp
theorem Fh {x:Course} (h:fP x=true):(bP x).length≤2600:=by
 unfold fP at h;rw[Bool.and_eq_true] at h;have h1:=mZ h.1;have h2:=mZ h.2;have k1:(if x.rep≠0 then [av (repeatWords.getD x.rep.toNat [])] else []).length≤1:=jX (by simp);have k2:(if x.need.op≠1∨x.need.kids≠[] then av je::(aF x.need++[bI 59]) else []).length≤1252:=jX (by simp;omega);have k3:(if x.bar.op≠2∨x.bar.kids≠[] then av lN::(aF x.bar++[bI 59]) else []).length≤1252:=jX (by simp;omega);unfold bP;simp only[List.length_append,List.length_cons,List.length_nil] at k1 k2 k3 ⊢;omega
theorem LP (x:Pair):(pairT x).length≤8:=by
 have h1:=pV x.a x.x;have h2:=pV x.b x.y;simp only[pairT,List.length_append,List.length_cons,List.length_nil];omega
theorem DI:∀ (l:List (List UInt8 × Int)),(dF l).length≤3*l.length
 | []=>by simp [dF]
 | [p]=>by have:=pV p.1 p.2;simp only[dF,List.length_cons,List.length_nil];omega
 | p::q::r=>by
  have h1:=pV p.1 p.2;have h2:=DI (q::r);simp only[dF,List.length_append,List.length_cons] at h2 ⊢;omega
theorem OQ {x:iK} (h:uw x=true):(gL x).length≤68:=by
 have h0:x.names.length≤20:=of_decide_eq_true h;have h1:=DI (x.names.zip x.froms);have h2:(x.names.zip x.froms).length≤x.names.length:=by rw [List.length_zip];omega
 have k1:(if x.gX≠1 then [av vX,aW x.gX] else []).length≤2:=jX (by simp);have k2:(if x.home=true then [av dV] else []).length≤1:=jX (by simp);unfold gL;simp only[List.length_append,List.length_cons,List.length_nil] at k1 k2 ⊢;omega
theorem Dx {x:Prog} (h:iD x=true):(eB x).length≤4800:=by
 unfold iD at h;simp only[Bool.and_eq_true,decide_eq_true_eq,List.all_eq_true] at h;have h1:=jk (B:=68) (f:=gL) (xs:=x.reqs) fun q hq=>OQ (h.2 q hq);have h2:x.reqs.length*68≤70*68:=Nat.mul_le_mul_right _ h.1;have k1:(if x.uses≠1 then [av jL,aW x.uses,bI 59] else []).length≤3:=jX (by simp);have k2:(if x.gD≠0 then [av gY,aW x.gD,bI 59] else []).length≤3:=jX (by simp);have k3:(if x.mean.num≠0 then av fD::(bO x.mean++[bI 59]) else []).length≤5:=jX (by simp [bO]);unfold eB
 simp only[List.length_append,List.length_cons,List.length_nil] at k1 k2 k3 ⊢;omega
theorem wG (w:List UInt8) (x:Cls):(fu w x).length≤8:=by simp [fu,bO]
theorem Ac {c:dh} (h:few c=true):c.courses.length≤8∧c.same.length≤8∧c.aS.length≤4∧c.classes.length+c.bZ.length+c.aJ.length+c.clauses.length≤20∧(∀ x∈c.courses,fP x=true)∧∀ x∈c.aS,iD x=true:=by
 unfold few rO at h;simp only[Bool.and_eq_true,decide_eq_true_eq,List.all_eq_true] at h;exact ⟨h.1.1.1.1.1,h.1.1.1.1.2,h.1.1.1.2,h.1.1.2,h.1.2,h.2⟩
theorem qW {c:dh} (h:few c=true):(gQ c).length≤60000:=by
 obtain ⟨h1,h2,h3,h4,h5,h6⟩:=Ac h;have k1:=jk (B:=2600) (f:=bP) (xs:=c.courses) fun x hx=>Fh (h5 x hx);have k2:=jk (B:=8) (f:=pairT) (xs:=c.same) fun x _=>LP x;have k3:=jk (B:=4800) (f:=eB) (xs:=c.aS) fun x hx=>Dx (h6 x hx);have k4:=jk (B:=8) (f:=fu dM) (xs:=c.classes) fun x _=>wG _ x;have k5:=jk (B:=8) (f:=jy) (xs:=c.bZ) fun x _=>by simp [jy]
 have k6:=jk (B:=8) (f:=fu cK) (xs:=c.aJ) fun x _=>wG _ x;have k7:=jk (B:=8) (f:=dI) (xs:=c.clauses) fun x _=>by simp [dI]
 have l1:c.courses.length*2600≤8*2600:=Nat.mul_le_mul_right _ h1;have l3:c.aS.length*4800≤4*4800:=Nat.mul_le_mul_right _ h3;unfold gQ;simp only[List.length_append];omega
theorem OT (s:List UInt8) (n:Int):fO s (jM s n)=fO s n:=by
 unfold fO jM
 split <;> simp_all
mutual
theorem DJ:∀ (r:Rule),aF r.un=aF r
 | .mk op co nm n d ks=>by rw [Rule.un,aF,aF,OT,DK,OU]
theorem DK:∀ (ks:List Rule),bC (dJ ks)=bC ks
 | []=>by rw [dJ]
 | k::ks=>by rw [dJ,bC,bC,DJ k,DK ks]
theorem OU:∀ (ks:List Rule),tZ (dJ ks)=tZ ks
 | []=>by rw [dJ]
 | k::ks=>by rw [dJ,tZ,tZ,DJ k]
end
end Go.Proofs.YtjonaidancomgaaGreatDoor.Sx
namespace Go.Proofs.YtjonaidancomgaaGreatDoor
open Go.RowKit
theorem pW {w:World} {S:Nat→Prop} {x:Sx.dh} {cs:List Value} (h:bE w S x cs):∃ a0 m0 ae0 a1 m1 ae1 a2 m2 ae2 a3 m3 ae3 a4 m4 ae4 a5 m5 ae5 a6 m6 ae6,cs = [.slice a0 m0 ae0,.slice a1 m1 ae1,.slice a2 m2 ae2,.slice a3 m3 ae3,.slice a4 m4 ae4,.slice a5 m5 ae5,.slice a6 m6 ae6]:=by
 obtain ⟨A0,c0,A1,c1,A2,c2,A3,c3,A4,c4,A5,c5,A6,c6,rfl,_⟩:=h;exact ⟨_,_,_,_,_,_,_,_,_,_,_,_,_,_,_,_,_,_,_,_,_,rfl⟩
theorem Jg (x:Sx.dh) (cs:List Value) (w:World) (hat:bE w (Old w) x cs) (hk:Sx.eX x=false):Calls Tryz.prog 20 #[.agg cs.toArray] w (kF [] 100 w):=by
 obtain ⟨W,hW⟩:∃ W,W=w.alloc (.cells cs.toArray 30):=⟨_,rfl⟩
 have hbw:Below w.heap.size w W:=by rw [hW];exact (Below.refl _ _).alloc (Nat.le_refl _) _
 have hbx:aC W w.heap.size 30 cs.toArray:=by rw [hW];exact aC.new _ _ _
 have K:=Lh (Px x cs W (bE.keep (aG hbw) hat));rw[hk] at K;obtain ⟨a0,m0,e0,a1,m1,e1,a2,m2,e2,a3,m3,e3,a4,m4,e4,a5,m5,e5,a6,m6,e6,rfl⟩:=pW hat;have HB:=Lh hbw;obtain ⟨x0,x1,x2,x3,x4,x5,x6,xz⟩:=bJ hbx;clear hat hk hbw hbx;go_enter Tryz.func20,Tryz.ntmps20;go_upto_region 1 with fail;rw[←hW];clear hW;go_wp2_with fail;refine K.out.mono ?_;rintro e w1 ⟨rfl,hb⟩;have HB1:=Lh (HB.out.trans (hb.mono HB.out.size));clear hb;go_wp2_with fail;go_ret2;exact ⟨rfl,HB1.out⟩
def Sx.mG (c:Sx.dh):List UInt8 × Int:=if Sx.eX c then (Lx.dB ((Sx.gQ c).map Lx.Tok.out),0) else ([],100)
def Sx.mH (r:Sx.Rule):List UInt8 × Int:=if Sx.aO 16 r then (Lx.dB ((Sx.aF r).map Lx.Tok.out),0) else ([],100)
theorem Mw (N:Nat) (x:Sx.dh) (cs:List Value) (w:World) (he:d9 N w) (hat:bE w (Old w) x cs) (hf:Sx.few x=true):Calls Tryz.prog 20 #[.agg cs.toArray] w (kF (Sx.mG x).1 (Sx.mG x).2 w):=by
 unfold Sx.mG;cases hk:Sx.eX x with
 | false=>exact Jg x cs w hat hk
 | true=>exact KZ N x cs _ w he hat hk (Sx.qW hf) (Sx.Ae hk).text fun t ht=>Sx.lQ (Sx.Ae hk t ht)
theorem PZ (N:Nat) (r:Sx.Rule) (cs:List Value) (w:World) (he:d9 N w) (h:aB w (Old w) r cs) (hf:Sx.iQ r=true):Calls Tryz.prog 22 #[.agg cs.toArray] w (kF (Sx.mH r).1 (Sx.mH r).2 w):=by
 unfold Sx.mH;cases hk:Sx.aO 16 r with
 | false=>exact qU r cs w h hk
 | true=>exact yg N r cs _ w he h hk (Nat.le_trans (Sx.mZ hf) (by omega)) (Sx.pX 16 r hk).text fun t ht=>Sx.lQ (Sx.pX 16 r hk t ht)
theorem LQ (a b:Sx.iK) (w:World) (ca cb:List Value) (ha:bW w (Old w) a ca) (hb:bW w (Old w) b cb) :
    Calls Tryz.prog 105 #[.agg ca.toArray,.agg cb.toArray] w (ak (decide (a=b)) w):=by
  obtain ⟨am,ac,ag,ah,an,af⟩:=a;obtain ⟨bm,bc,bg,bh,bn,bf⟩:=b;obtain ⟨A1,c1,A2,c2,rfl,-,a1,a2⟩:=ha;obtain ⟨B1,d1,B2,d2,rfl,-,b1,b2⟩:=hb;obtain ⟨R,hR⟩:∃ R,R=decide ((⟨am,ac,ag,ah,an,af⟩:Sx.iK)=⟨bm,bc,bg,bh,bn,bf⟩):=⟨_,rfl⟩
  rw[←hR];simp only[Sx.iK.mk.injEq] at hR;have z1:=a1.len;have z2:=a2.len;have y1:=b1.len;have y2:=b2.len;simp only[aT,bB];simp only at z1 z2 y1 y2;obtain ⟨n1,hn1⟩:∃ k,k=an.length:=⟨_,rfl⟩
  obtain ⟨p1,hp1⟩:∃ k,k=bn.length:=⟨_,rfl⟩
  obtain ⟨n2,hn2⟩:∃ k,k=af.length:=⟨_,rfl⟩
  obtain ⟨p2,hp2⟩:∃ k,k=bf.length:=⟨_,rfl⟩
  rw[←hn1] at z1;rw[←hn2] at z2;rw[←hp1] at y1;rw[←hp2] at y2;rw[←hn1,←hn2,←hp1,←hp2];obtain ⟨W,hW⟩:∃ W,W=(w.alloc (.cells #[.string (Lx.bs am),.int .i64 ac,.int .i64 ag,.bool ah,.slice A1 n1 c1,.slice A2 n2 c2] 108)).alloc (.cells #[.string (Lx.bs bm),.int .i64 bc,.int .i64 bg,.bool bh,.slice B1 p1 d1,.slice B2 p2 d2] 108):=⟨_,rfl⟩
  have hb0:Below w.heap.size w W:=by rw [hW];exact ((Below.refl _ _).alloc (Nat.le_refl _) _).alloc (by simp) _
  have e0:aC W w.heap.size 108 #[.string (Lx.bs am),.int .i64 ac,.int .i64 ag,.bool ah,.slice A1 n1 c1,.slice A2 n2 c2]:=by rw [hW];exact (aC.new _ _ _).alloc _
  have e1:aC W (w.heap.size+1) 108 #[.string (Lx.bs bm),.int .i64 bc,.int .i64 bg,.bool bh,.slice B1 p1 d1,.slice B2 p2 d2]:=by rw [hW];exact aC.aZ _ _ (by simp)
  have V7:=Lh (a1.old hb0);have RA2:=Lh (a2.old hb0);have V8:=Lh (b1.old hb0);have RB2:=Lh (b2.old hb0);have HB0:=Lh hb0;have tO:=Lh hn1;have Lg:=Lh hp1;have nE:=Lh hn2;have G9:=Lh hp2;have E0:=Lh e0;have E1:=Lh e1;have hWs:=hb0.size;have hw1:=e1.lt;clear e0 e1 hb0 a1 a2 b1 b2 hn1 hp1 hn2 hp2;have hbs:((Lx.bs am).toList == (Lx.bs bm).toList)=(am == bm):=by rw [ByteArray.toList_eq,ByteArray.toList_eq,Lx.aK,Lx.aK]
  cases q0:am == bm with
  | false=>
    rw[q0] at hbs;have HR2:Hid (R=false):=Lh (by rw [hR];exact decide_eq_false fun e=>by rw [e.1] at q0;simp at q0);clear hR;go_enter Tryz.func105,Tryz.ntmps105;go_wp2_with fail
    try rw [←hW]
    go_ret;exact ⟨aj HR2.out.symm,HB0.out⟩
  | true=>
  rw[q0] at hbs;cases q1:ac != bc with
  | true=>
    have HR2:Hid (R=false):=Lh (by rw [hR];exact decide_eq_false fun e=>by simp [e.2.1] at q1);clear hR;go_enter Tryz.func105,Tryz.ntmps105;go_wp2_with fail
    try rw [←hW]
    go_ret;exact ⟨aj HR2.out.symm,HB0.out⟩
  | false=>
  cases q2:ag != bg with
  | true=>
    have HR2:Hid (R=false):=Lh (by rw [hR];exact decide_eq_false fun e=>by simp [e.2.2.1] at q2);clear hR;go_enter Tryz.func105,Tryz.ntmps105;go_wp2_with fail
    try rw [←hW]
    go_ret;exact ⟨aj HR2.out.symm,HB0.out⟩
  | false=>
  by_cases q3:ah=bh
  case neg=>
    have HR2:Hid (R=false):=Lh (by rw [hR];exact decide_eq_false fun e=>q3 e.2.2.2.1);clear hR;cases ah <;> cases bh <;> first
      | exact absurd rfl q3
      | (go_enter Tryz.func105,Tryz.ntmps105
         go_wp2_with fail
         try rw [←hW]
         go_ret;exact ⟨aj HR2.out.symm,HB0.out⟩)
  subst q3;cases q4:((n1:Int) != (p1:Int)) with
  | true=>
    have HR2:Hid (R=false):=Lh (by rw [hR];exact decide_eq_false fun e=>by have h1:=tO.out;have h2:=Lg.out;rw[e.2.2.2.2.1] at h1;simp at q4;omega);clear hR;go_enter Tryz.func105,Tryz.ntmps105;go_wp2_with fail
    try rw [←hW]
    go_ret;exact ⟨aj HR2.out.symm,HB0.out⟩
  | false=>
  cases q5:((n2:Int) != (p2:Int)) with
  | true=>
    have HR2:Hid (R=false):=Lh (by rw [hR];exact decide_eq_false fun e=>by have h1:=nE.out;have h2:=G9.out;rw[e.2.2.2.2.2] at h1;simp at q5;omega);clear hR;go_enter Tryz.func105,Tryz.ntmps105;go_wp2_with fail
    try rw [←hW]
    go_ret;exact ⟨aj HR2.out.symm,HB0.out⟩
  | false=>
  have PO:R=decide (an=bn∧af=bf):=by
    have e0:am=bm:=by simpa using q0
    have e1:ac=bc:=by simpa using q1
    have e2:ag=bg:=by simpa using q2
    rw[hR,e0,e1,e2];simp
  have HR:=Lh PO;obtain rfl:n1=p1:=by have:(n1:Int)=p1:=(by simpa using q4);omega
  obtain rfl:n2=p2:=by have:(n2:Int)=p2:=(by simpa using q5);omega
  clear hR PO q4 q5;go_enter Tryz.func105,Tryz.ntmps105;go_wp2_with fail
  try rw [←hW]
  clear hW q0 q1 q2 hbs;have g4:=E0.out.cell 4;have g5:=E0.out.cell 5;have h4:=E1.out.cell 4;have h5:=E1.out.cell 5;simp at g4 g5 h4 h5
  go_loopg [5] n1 (fun gk v5 wr=>∃ i nn:Nat,v5 = .int .i64 i∧i+gk=n1∧wr=W.drewN nn∧Hid (∀ j,j < i→an[j]?=bn[j]?))
  case atStart=>exact ⟨0,0,rfl,by omega,rfl,Lh (fun j hj=>absurd hj (Nat.not_lt_zero j))⟩
  case round=>
    obtain ⟨i,nn,rfl,hi,rfl,dQ⟩:=hrel
    by_cases hlt:i < n1
    · obtain ⟨x,hx⟩:∃ x,an[i]?=some x:=⟨_,List.getElem?_eq_getElem (by have:=tO.out;omega)⟩
      obtain ⟨y,hy⟩:∃ y,bn[i]?=some y:=⟨_,List.getElem?_eq_getElem (by have:=Lg.out;omega)⟩
      obtain ⟨bx,ox,Xn,rfl,_,hpx,hcx⟩:=V7.out.at_ i x hx;obtain ⟨Jl,oy,Xo,rfl,_,hpy,hcy⟩:=V8.out.at_ i y hy;obtain rfl:=hpx.1;obtain rfl:=hpy.1;have x0:=hcx 0 _ rfl;have y0:=hcy 0 _ rfl;simp only[Nat.add_zero,Nat.mul_one,bB] at x0 y0;have Hx:=Lh hx;have Hy:=Lh hy;clear hcx hcy hx hy;cases hq:(Lx.bs x).toList == (Lx.bs y).toList with
      | false=>
        have HR2:Hid (R=false):=Lh (by
          rw[HR.out];refine decide_eq_false fun e0=>?_;have hxy:x≠y:=fun e=>by rw [e] at hq;simp at hq
          have h1:=Hx.out;rw[e0.1,Hy.out] at h1;injection h1 with h1;exact hxy h1.symm)
        go_wp2_with fail
        go_quiet (fail)
        go_wp2_with fail;go_ret;exact ⟨aj HR2.out.symm,ay (ay HB0.out _) _⟩
      | true=>
        have hnx:=bY dQ.out (by have e:x=y:=(by rw [ByteArray.toList_eq,ByteArray.toList_eq,Lx.aK,Lx.aK] at hq;simpa using hq);rw[Hx.out,Hy.out,e]);have mW:=Lh hnx;clear hnx;go_wp2_with fail
        go_quiet (fail)
        go_wp2_with fail
        go_roundg (gk - 1)
        all_goals first
          | omega
          | exact ⟨i+1,_,by go_num,by omega,(by first | rfl | exact World.drewN_drewN _ _ _),Lh mW.out⟩
    · obtain rfl:i=n1:=by omega
      have hall:an=bn:=dG dQ.out tO.out Lg.out;have sO:=HR.out;rw[hall] at sO;simp only[true_and] at sO;clear HR;have HR:=Lh sO;clear sO hall dQ hi hlt;go_wp2_with fail
      go_loopg [6] n2 (fun gk v6 wr=>∃ i nn:Nat,v6 = .int .i64 i∧i+gk=n2∧wr=W.drewN nn∧Hid (∀ j,j < i→af[j]?=bf[j]?))
      case atStart=>exact ⟨0,nn,rfl,by omega,rfl,Lh (fun j hj=>absurd hj (Nat.not_lt_zero j))⟩
      case round=>
        obtain ⟨i,nn,rfl,hi,rfl,dQ⟩:=hrel
        by_cases hlt:i < n2
        · obtain ⟨x,hx⟩:∃ x,af[i]?=some x:=⟨_,List.getElem?_eq_getElem (by have:=nE.out;omega)⟩
          obtain ⟨y,hy⟩:∃ y,bf[i]?=some y:=⟨_,List.getElem?_eq_getElem (by have:=G9.out;omega)⟩
          obtain ⟨bx,ox,Xn,rfl,_,hpx,hcx⟩:=RA2.out.at_ i x hx;obtain ⟨Jl,oy,Xo,rfl,_,hpy,hcy⟩:=RB2.out.at_ i y hy;obtain rfl:=hpx;obtain rfl:=hpy;have x0:=hcx 0 _ rfl;have y0:=hcy 0 _ rfl;simp only[Nat.add_zero,Nat.mul_one,aT] at x0 y0;have Hx:=Lh hx;have Hy:=Lh hy;clear hcx hcy hx hy;cases hq:x != y with
          | true=>
            have HR2:Hid (R=false):=Lh (by
              rw[HR.out];refine decide_eq_false fun e0=>?_;have hxy:x≠y:=fun e=>by simp [e] at hq
              have h1:=Hx.out;rw[e0,Hy.out] at h1;injection h1 with h1;exact hxy h1.symm)
            go_wp2_with fail
            go_quiet (fail)
            go_wp2_with fail;go_ret;exact ⟨aj HR2.out.symm,ay (ay HB0.out _) _⟩
          | false=>
            have hnx:=bY dQ.out (by have e:x=y:=(by simpa using hq);rw[Hx.out,Hy.out,e]);have mW:=Lh hnx;clear hnx;go_wp2_with fail
            go_quiet (fail)
            go_wp2_with fail
            go_roundg (gk - 1)
            all_goals first
              | omega
              | exact ⟨i+1,_,by go_num,by omega,(by first | rfl | exact World.drewN_drewN _ _ _),Lh mW.out⟩
        · obtain rfl:i=n2:=by omega
          have hall:af=bf:=dG dQ.out nE.out G9.out;have HR2:Hid (R=true):=Lh (by rw [HR.out,hall];simp);go_wp2_with fail;go_ret;exact ⟨aj HR2.out.symm,ay HB0.out _⟩
theorem OV (x y:Sx.bL) (w:World):(binOp .neq 75 (.agg #[.int .i64 x.num,.int .i64 x.den]) (.agg #[.int .i64 y.num,.int .i64 y.den])).run Tryz.prog w = .ok (.bool (!(x.num == y.num && x.den == y.den))) w:=by
 have h:=AX 9998 w x y;have h2:(Op.equal 75 (.agg #[.int .i64 x.num,.int .i64 x.den]) (.agg #[.int .i64 y.num,.int .i64 y.den])).run Tryz.prog w = .ok (x.num == y.num && x.den == y.den) w:=h;simp only[binOp];simp[h2]
theorem Jc (a b:Sx.Prog) (w:World) (ca cb:List Value) (ha:bS w (Old w) a ca) (hb:bS w (Old w) b cb) :
  Calls Tryz.prog 42 #[.agg ca.toArray,.agg cb.toArray] w (ak (decide (a=b)) w):=by
 obtain ⟨am,ao,au,ae,⟨an,ad⟩,aq⟩:=a;obtain ⟨bm,bo,bu,be,⟨bn,bd⟩,bq⟩:=b;obtain ⟨A,c,rfl,-,a1⟩:=ha;obtain ⟨B,c2,rfl,-,b1⟩:=hb;obtain ⟨R,hR⟩:∃ R,R=decide ((⟨am,ao,au,ae,⟨an,ad⟩,aq⟩:Sx.Prog)=⟨bm,bo,bu,be,⟨bn,bd⟩,bq⟩):=⟨_,rfl⟩
 rw[←hR];simp only[Sx.Prog.mk.injEq,Sx.bL.mk.injEq] at hR;have z1:=a1.len;have y1:=b1.len;simp only[aT,bB];simp only at z1 y1;obtain ⟨m,hm⟩:∃ k,k=aq.length:=⟨_,rfl⟩
 obtain ⟨m2,hm2⟩:∃ k,k=bq.length:=⟨_,rfl⟩
 rw[←hm] at z1;rw[←hm2] at y1;rw[←hm,←hm2];obtain ⟨W,hW⟩:∃ W,W=(w.alloc (.cells #[.string (Lx.bs am),.int .i64 ao,.int .i64 au,.int .i64 ae,.int .i64 an,.int .i64 ad,.slice A m c] 78)).alloc (.cells #[.string (Lx.bs bm),.int .i64 bo,.int .i64 bu,.int .i64 be,.int .i64 bn,.int .i64 bd,.slice B m2 c2] 78):=⟨_,rfl⟩
 have hb0:Below w.heap.size w W:=by rw [hW];exact ((Below.refl _ _).alloc (Nat.le_refl _) _).alloc (by simp) _
 have e0:aC W w.heap.size 78 #[.string (Lx.bs am),.int .i64 ao,.int .i64 au,.int .i64 ae,.int .i64 an,.int .i64 ad,.slice A m c]:=by rw [hW];exact (aC.new _ _ _).alloc _
 have e1:aC W (w.heap.size+1) 78 #[.string (Lx.bs bm),.int .i64 bo,.int .i64 bu,.int .i64 be,.int .i64 bn,.int .i64 bd,.slice B m2 c2]:=by rw [hW];exact aC.aZ _ _ (by simp)
 have RA:=Lh a1;have RB:=Lh b1;have HB0:=Lh hb0;have Hm:=Lh hm;have G9:=Lh hm2;have sF:=Lh e0;have rX:=Lh e1;have hWs:=hb0.size;clear e0 e1 hb0 a1 b1 hm hm2;have hbs:((Lx.bs am).toList == (Lx.bs bm).toList)=(am == bm):=by rw [ByteArray.toList_eq,ByteArray.toList_eq,Lx.aK,Lx.aK]
 have hrt:=OV ⟨an,ad⟩ ⟨bn,bd⟩;simp only at hrt;cases q0:am == bm with
 | false=>
  have HR2:Hid (R=false):=Lh (by rw [hR];exact decide_eq_false fun e=>by rw [e.1] at q0;simp at q0);rw[q0] at hbs;clear hR;go_enter Tryz.func42,Tryz.ntmps42;go_wp2_with fail
  try rw [←hW]
  go_ret;exact ⟨aj HR2.out.symm,HB0.out⟩
 | true=>
 rw[q0] at hbs;cases q1:ao != bo with
 | true=>
  have HR2:Hid (R=false):=Lh (by rw [hR];exact decide_eq_false fun e=>by simp [e.2.1] at q1);clear hR;go_enter Tryz.func42,Tryz.ntmps42;go_wp2_with fail
  try rw [←hW]
  go_ret;exact ⟨aj HR2.out.symm,HB0.out⟩
 | false=>
 cases q2:au != bu with
 | true=>
  have HR2:Hid (R=false):=Lh (by rw [hR];exact decide_eq_false fun e=>by simp [e.2.2.1] at q2);clear hR;go_enter Tryz.func42,Tryz.ntmps42;go_wp2_with fail
  try rw [←hW]
  go_ret;exact ⟨aj HR2.out.symm,HB0.out⟩
 | false=>
 cases q3:ae != be with
 | true=>
  have HR2:Hid (R=false):=Lh (by rw [hR];exact decide_eq_false fun e=>by simp [e.2.2.2.1] at q3);clear hR;go_enter Tryz.func42,Tryz.ntmps42;go_wp2_with fail
  try rw [←hW]
  go_ret;exact ⟨aj HR2.out.symm,HB0.out⟩
 | false=>
 cases q4:(an == bn && ad == bd) with
 | false=>
  have HR2:Hid (R=false):=Lh (by rw [hR];exact decide_eq_false fun e=>by simp [e.2.2.2.2.1.1,e.2.2.2.2.1.2] at q4);rw[q4] at hrt;clear hR;go_enter Tryz.func42,Tryz.ntmps42;go_wp2_with fail
  try rw [←hW]
  go_ret;exact ⟨aj HR2.out.symm,HB0.out⟩
 | true=>
 rw[q4] at hrt;cases q5:((m:Int) != (m2:Int)) with
 | true=>
  have HR2:Hid (R=false):=Lh (by rw [hR];exact decide_eq_false fun e=>by have h1:=Hm.out;have h2:=G9.out;rw[e.2.2.2.2.2] at h1;simp at q5;omega);clear hR;go_enter Tryz.func42,Tryz.ntmps42;go_wp2_with fail
  try rw [←hW]
  go_ret;exact ⟨aj HR2.out.symm,HB0.out⟩
 | false=>
 obtain rfl:m=m2:=by have:(m:Int)=m2:=(by simpa using q5);omega
 have PO:R=decide (aq=bq):=by
  have e0:am=bm:=by simpa using q0
  have e1:ao=bo:=by simpa using q1
  have e2:au=bu:=by simpa using q2
  have e3:ae=be:=by simpa using q3
  have e4:an=bn∧ad=bd:=by simpa using q4
  rw[hR,e0,e1,e2,e3,e4.1,e4.2];simp
 have HR:=Lh PO;clear hR PO q5;go_enter Tryz.func42,Tryz.ntmps42;go_wp2_with fail
 try rw [←hW]
 clear hW q0 q1 q2 q3 q4 hbs hrt
 go_loopg [5] m (fun gk v5 wr=>∃ i:Nat,v5 = .int .i64 i∧i+gk=m∧Hid (Below W.heap.size W wr)∧Hid (∀ j,j < i→aq[j]?=bq[j]?))
 case atStart=>exact ⟨0,rfl,by omega,Lh (Below.refl _ _),Lh (fun j hj=>absurd hj (Nat.not_lt_zero j))⟩
 case round=>
  obtain ⟨i,rfl,hi,Hb,dQ⟩:=hrel;have Bl:=Lh (HB0.out.trans (Hb.out.mono HB0.out.size));have g0:=sF.out.below Hb.out sF.out.lt;have g1:=rX.out.below Hb.out rX.out.lt;have g6:=g0.cell 6;have h6:=g1.cell 6;simp at g6 h6;clear g0 g1
  by_cases hlt:i < m
  ·obtain ⟨x,hx⟩:∃ x,aq[i]?=some x:=⟨_,List.getElem?_eq_getElem (by have:=Hm.out;omega)⟩
   obtain ⟨y,hy⟩:∃ y,bq[i]?=some y:=⟨_,List.getElem?_eq_getElem (by have:=G9.out;omega)⟩
   have Hx:=Lh hx;have Hy:=Lh hy;obtain ⟨bk,ok,Fw,rfl,gV,oL,hck⟩:=RA.out.at_ i x hx;have mK:=bW.keep (fun b hb1=>(⟨Nat.lt_of_lt_of_le hb1 Bl.out.size,fun i=>Bl.out.cell (p:=⟨b,i,none⟩) hb1⟩:Old wr b∧∀ i,wr.cell? ⟨b,i,none⟩=w.cell? ⟨b,i,none⟩)) oL;obtain ⟨kA,ki,kB,kj,rfl,-,-,-⟩:=oL;have k0:=(Bl.out.cell (p:=⟨bk,_,none⟩) gV).trans (hck 0 _ rfl);have k1:=(Bl.out.cell (p:=⟨bk,_,none⟩) gV).trans (hck 1 _ rfl);have k2:=(Bl.out.cell (p:=⟨bk,_,none⟩) gV).trans (hck 2 _ rfl);have k3:=(Bl.out.cell (p:=⟨bk,_,none⟩) gV).trans (hck 3 _ rfl)
   have k4:=(Bl.out.cell (p:=⟨bk,_,none⟩) gV).trans (hck 4 _ rfl);have k5:=(Bl.out.cell (p:=⟨bk,_,none⟩) gV).trans (hck 5 _ rfl);simp only[Nat.add_zero,aT,bB] at k0 k1 k2 k3 k4 k5 mK;obtain ⟨bl,ol,Wz,rfl,kR,hrl,hcl⟩:=RB.out.at_ i y hy;have ru:=bW.keep (fun b hb1=>(⟨Nat.lt_of_lt_of_le hb1 Bl.out.size,fun i=>Bl.out.cell (p:=⟨b,i,none⟩) hb1⟩:Old wr b∧∀ i,wr.cell? ⟨b,i,none⟩=w.cell? ⟨b,i,none⟩)) hrl;obtain ⟨lA,li,lB,lj,rfl,-,-,-⟩:=hrl;have l0:=(Bl.out.cell (p:=⟨bl,_,none⟩) kR).trans (hcl 0 _ rfl);have l1:=(Bl.out.cell (p:=⟨bl,_,none⟩) kR).trans (hcl 1 _ rfl)
   have l2:=(Bl.out.cell (p:=⟨bl,_,none⟩) kR).trans (hcl 2 _ rfl);have l3:=(Bl.out.cell (p:=⟨bl,_,none⟩) kR).trans (hcl 3 _ rfl);have l4:=(Bl.out.cell (p:=⟨bl,_,none⟩) kR).trans (hcl 4 _ rfl);have l5:=(Bl.out.cell (p:=⟨bl,_,none⟩) kR).trans (hcl 5 _ rfl);simp only[Nat.add_zero,aT,bB] at l0 l1 l2 l3 l4 l5 ru;have aH:=Lh (LQ x y wr.drew _ _ (bW.keep (w:=wr) (w':=wr.drew) (S:=Old wr) (S':=Old wr.drew) (fun b hb1=>⟨hb1,fun _=>rfl⟩) mK) (bW.keep (w:=wr) (w':=wr.drew) (S:=Old wr) (S':=Old wr.drew) (fun b hb1=>⟨hb1,fun _=>rfl⟩) ru));clear mK ru hck hcl hx hy
   cases hq:decide (x=y) with
   | false=>
    rw[hq] at aH;have HR2:Hid (R=false):=Lh (by
     rw[HR.out];refine decide_eq_false fun e0=>?_;have hxy:x≠y:=fun e=>by simp [e] at hq
     have h1:=Hx.out;rw[e0,Hy.out] at h1;injection h1 with h1;exact hxy h1.symm)
    clear hq;go_wp2_with fail
    go_region_law (go_simp;go_at_call 105;refine aH.out.mono ?_;rintro e w5 ⟨rfl,hb5⟩;have Hb5:=Lh hb5;clear hb5)
    all_goals (try go_wp2_with fail)
    all_goals go_ret
    all_goals exact ⟨aj HR2.out.symm,Bl.out.trans (Below.trans (Below.refl _ _).drew (Hb5.out.mono (by have:=Bl.out.size;exact this)))⟩
   | true=>
    rw[hq] at aH;have mW:=Lh (bY dQ.out (by have e:x=y:=(by simpa using hq);rw[Hx.out,Hy.out,e]));clear hq;go_wp2_with fail
    go_region_law (go_simp;go_at_call 105;refine aH.out.mono ?_;rintro e w5 ⟨rfl,hb5⟩;have Hb5:=Lh hb5;clear hb5)
    all_goals (try go_wp2_with fail)
    all_goals go_roundg (gk - 1)
    all_goals first
     | omega
     | exact ⟨i+1,by go_num,by omega,Lh (Hb.out.trans (Below.trans (Below.refl _ _).drew (Hb5.out.mono (by have:=Hb.out.size;exact this)))),Lh mW.out⟩
  ·obtain rfl:i=m:=by omega
   have hall:aq=bq:=dG dQ.out Hm.out G9.out;have HR2:Hid (R=true):=Lh (by rw [HR.out,hall];simp);clear hall;go_wp2_with fail;go_ret;exact ⟨aj HR2.out.symm,Bl.out⟩
end Go.Proofs.YtjonaidancomgaaGreatDoor
