/- Parts of the proof, joined into one text: ZI, q1B, ZJ. -/
import Derived.Test.YtjonaidancomgaaGreatDoorPSxRule
import Derived.Outline
namespace Go.Proofs.YtjonaidancomgaaGreatDoor
open Go.RowKit
theorem qE {g:Nat} {w w':World} (h:eP g w w') {b s n:Nat} {e:TypeId} {v:Value} {x:List Value} (ho:w.ownsRow b e s v n x) (hb:g < b):w'.ownsRow b e s v n x:=by
 have hge:=fun z (hz:v.ownBlock=some z)=>jY ho hz;have hlt:=fun z (hz:v.ownBlock=some z)=>kY ho hz;obtain ⟨p1,p2⟩:=ho;refine ⟨p1,?_⟩
 rcases p2 with p2 | ⟨z,cap,cur,hv,hg,hh,r⟩
 ·exact .inl p2
 ·have hz:v.ownBlock=some z:=by rw [hv];rfl
  have h1:=hge z hz;have h2:=hlt z hz;exact .inr ⟨z,cap,cur,hv,hg,(h.keep z h2 (by omega)).trans hh,r⟩
structure mP (g B : Nat) (last : Int) (p : Nat) (op n : Int) (w0 : World) (ks : List Sx.Rule) (css : List (List Value)) (v : Value) (l : List Lx.Tok) (w : World) : Prop where
 st:jE g B last l p #[.int .i64 op,.int .i64 0,.string ⟨#[]⟩,.int .i64 n,.int .i64 0,v] w0 w
 own:w.ownsRow p 38 6 v ks.length css.flatten
 len:css.length=ks.length
 kid:∀ (i:Nat) r cs,ks[i]?=some r→css[i]?=some cs→aB w (fun b=>p < b∧b < w.heap.size∧v.ownBlock≠some b) r cs
 far:v.ownBlock≠some p
section
variable {g B : Nat} {last : Int} {p : Nat} {op n : Int} {w0 w w' : World} {ks : List Sx.Rule} {css : List (List Value)} {v : Value} {l l' : List Lx.Tok}
theorem mP.gp (h:mP g B last p op n w0 ks css v l w):g < p:=by have:=h.st.old;have:=h.st.lt;omega
theorem mP.step (h:mP g B last p op n w0 ks css v l w) (hf:eP g w w') (hs:PS g B last l' w'):mP g B last p op n w0 ks css v l' w':=
 ⟨h.st.step hf hs,qE hf h.own h.gp,h.len,fun i r cs h1 h2=>aB.keep (fun b hb=>⟨⟨hb.1,Nat.lt_of_lt_of_le hb.2.1 hf.aY.size,hb.2.2⟩,fun j=>hf.cell hb.2.1 (by have:=h.gp;have:=hb.1;omega) j⟩) r cs (h.kid i r cs h1 h2),h.far⟩
theorem mP.start (h:jE g B last l p #[.int .i64 op,.int .i64 0,.string ⟨#[]⟩,.int .i64 n,.int .i64 0,.slice none 0 0] w0 w):mP g B last p op n w0 [] [] (.slice none 0 0) l w:=
 ⟨h,⟨rfl,.inl ⟨rfl,rfl⟩⟩,rfl,fun i r cs h1 _=>by simp at h1,by simp [Value.ownBlock]⟩
theorem mP.grow {gg cap lo:Nat} {r:Sx.Rule} {cs:List Value} {w1 w3:World} (h:mP g B last p op n w0 ks css v l w) (hr:aB w (fun b=>lo≤b∧b < w.heap.size) r cs) (hlo:p < lo) (hrow:∀ z,v.ownBlock=some z→z < lo)
  (hb1:Below w.heap.size w w1) (hgrow:w1.grownBy w3 v.ownBlock) (hat:v.ownBlock=some gg∨w.heap.size≤gg) (hown:w3.ownsRow p 38 6 (.slice (some ⟨gg,0,none⟩) (ks.length+1) cap) (ks.length+1) (css.flatten++cs)) :
  (w3.cell? ⟨p,5,none⟩=some v∧w3.frozen? ⟨p,5,none⟩=false)∧mP g B last p op n w0 (ks++[r]) (css++[cs]) (.slice (some ⟨gg,0,none⟩) (ks.length+1) cap) l (w3.setCell ⟨p,5,none⟩ (.slice (some ⟨gg,0,none⟩) (ks.length+1) cap)):=by
 have hgp:=h.gp;have hpl:=h.st.blk.lt;have hz1:=hb1.size;have hz3:=hgrow.size;have hbk:aC w3 p 38 #[.int .i64 op,.int .i64 0,.string ⟨#[]⟩,.int .i64 n,.int .i64 0,v]:=(h.st.blk.below hb1 hpl).grown hgrow h.far;have hkeep:∀ b,b < w.heap.size→v.ownBlock≠some b→w3.heap[b]?=w.heap[b]?:=fun b hb hn=>(hgrow.block b (by omega) (fun e=>hn e.symm)).trans (hb1.block b hb);have hgo:v.ownBlock≠some g:=fun e=>by have:=jY h.own e;omega
 have hF:eP g w0 w3:=by
  refine ⟨h.st.fr.aY.trans (Below.grown (hb1.mono (by have:=h.st.lt;have:=h.st.fr.aY.size;omega)) hgrow (by have:=h.st.lt;have:=h.st.fr.aY.size;omega) (fun z hz=>by have:=jY h.own hz;omega)),fun k hk hn=>?_⟩;have:=h.st.fr.aY.size;have:=h.st.old;exact (hkeep k (by omega) (fun e=>by have:=jY h.own e;omega)).trans (h.st.fr.keep k hk hn)
 have hne:(Value.slice (some ⟨gg,0,none⟩) (ks.length+1) cap).ownBlock≠some p:=by
  intro e;have e1:gg=p:=by simpa [Value.ownBlock] using e
  rcases hat with h1 | h1
  ·exact h.far (by rw [h1,e1])
  ·omega
 have Oh:PS g B last l w3:=by
  obtain ⟨⟨A,c,q1,q2,q3⟩,hB⟩:=h.st.ps;have hbel:Below g w w3:=Below.grown (hb1.mono (by omega)) hgrow (by omega) (fun z hz=>by have:=jY h.own hz;omega);exact ⟨⟨A,c,(q1.below hb1 q1.lt).grown hgrow hgo,q2.below hbel hB,q3⟩,hB⟩
 have VH:∀ b,b < w.heap.size→v.ownBlock≠some b→b≠gg:=fun b h1 h2 e=>by
  rcases hat with h3 | h3
  ·exact h2 (by rw [e];exact h3)
  ·omega
 have hsz:(w3.setCell ⟨p,5,none⟩ (.slice (some ⟨gg,0,none⟩) (ks.length+1) cap)).heap.size=w3.heap.size:=by simp [World.setCell]
 have hS:∀ b,p < b→b < w.heap.size→v.ownBlock≠some b→(p < b∧b < (w3.setCell ⟨p,5,none⟩ (.slice (some ⟨gg,0,none⟩) (ks.length+1) cap)).heap.size∧(Value.slice (some ⟨gg,0,none⟩) (ks.length+1) cap).ownBlock≠some b)∧∀ i,(w3.setCell ⟨p,5,none⟩ (.slice (some ⟨gg,0,none⟩) (ks.length+1) cap)).cell? ⟨b,i,none⟩=w.cell? ⟨b,i,none⟩:=fun b h1 h2 h3=>
  ⟨⟨h1,by rw [hsz];omega,fun e=>VH b h2 h3 (by simpa [Value.ownBlock] using e.symm)⟩,fun i=>World.cell?_of_block (a:=⟨b,i,none⟩) ((Below.heap_setCell w3 ⟨p,5,none⟩ _ b (show b≠p by omega)).trans (hkeep b h2 h3))⟩
 refine ⟨⟨?_,?_⟩,?_⟩
 ·exact hbk.cell 5
 ·exact hbk.free 5
 ·refine ⟨?_,?_,by simp [h.len],?_,hne⟩
  ·exact (jE.mk Oh hF hbk h.st.old h.st.lt).set 5 _
  ·rw[show (ks++[r]).length=ks.length+1 by simp,show (css++[cs]).flatten=css.flatten++cs by simp];obtain ⟨p1,p2⟩:=hown;refine ⟨p1,?_⟩
   rcases p2 with p2 | ⟨z,c2,cur,hv,hg,hh,hr2⟩
   ·exact .inl p2
   ·have hz:z=gg:=by cases hv;rfl
    exact .inr ⟨z,c2,cur,hv,hg,(Below.heap_setCell w3 ⟨p,5,none⟩ _ z (fun e=>hne (by rw [show z=p from e] at hz;rw[hz];rfl))).trans hh,hr2⟩
  ·intro i r1 cs1 h1 h2
   rcases Nat.lt_or_ge i ks.length with hi | hi
   ·rw[List.getElem?_append_left hi] at h1;rw[List.getElem?_append_left (by rw [h.len];exact hi)] at h2;exact aB.keep (fun b hb=>hS b hb.1 hb.2.1 hb.2.2) r1 cs1 (h.kid i r1 cs1 h1 h2)
   ·rw[List.getElem?_append_right hi] at h1;rw[List.getElem?_append_right (by rw [h.len];exact hi)] at h2;rw[h.len] at h2;cases hd:i - ks.length with
    | succ m=>rw [hd] at h1;simp at h1
    | zero=>
     rw[hd] at h1 h2;simp at h1 h2;subst h1;subst h2;exact aB.keep (fun b hb=>hS b (by have:=hb.1;omega) hb.2 (fun e=>by have:=hrow b e;have:=hb.1;omega)) r cs hr
theorem Dc:∀ {css:List (List Value)} (_:∀ cs∈css,cs.length=6) (i:Nat) (cs:List Value) (j:Nat) (x:Value),css[i]?=some cs→cs[j]?=some x→css.flatten[i*6+j]?=some x
 | [],_,i,cs,j,x,hi,_=>by simp at hi
 | c::css,h6,0,cs,j,x,hi,hj=>by
  obtain rfl:c=cs:=by simpa using hi
  rw[List.flatten_cons,Nat.zero_mul,Nat.zero_add,List.getElem?_append_left (List.getElem?_eq_some_iff.1 hj).1];exact hj
 | c::css,h6,i+1,cs,j,x,hi,hj=>by
  have h1:=h6 c (by simp);rw[List.flatten_cons,List.getElem?_append_right (by omega),h1,show (i+1)*6+j - 6=i*6+j by omega];exact Dc (fun d hd=>h6 d (by simp [hd])) i cs j x (by simpa using hi) hj
theorem mP.out (h:mP g B last p op n w0 ks css v l w) (q2F:ks.length≤200):aB w (fun b=>p < b∧b < w.heap.size) (.mk op 0 [] n 0 ks) [aT op,aT 0,bB [],aT n,aT 0,v]:=by
 rw[aB];have hown:=h.own;obtain ⟨p1,p2⟩:=hown;have h6:∀ cs∈css,cs.length=6:=fun cs hcs=>by
  obtain ⟨i,hi⟩:=List.getElem?_of_mem hcs;have hl:=(List.getElem?_eq_some_iff.1 hi).1;rw[h.len] at hl;exact (h.kid i ks[i] cs (List.getElem?_eq_getElem hl) hi).length
 rcases p2 with ⟨hv,h0⟩ | ⟨z,cap,cur,hv,hg,hh,hc,hm,hsz,ht⟩
 ·have:ks = []:=List.length_eq_zero_iff.1 h0;subst this;exact ⟨none,0,by rw [hv];rfl,by simp,by simp,by rw [dP];trivial⟩
 ·refine ⟨some ⟨z,0,none⟩,cap,by rw [hv],by simp,by omega,?_⟩;have hzp:p≠z:=fun e=>h.far (by rw [hv,e];rfl);rw[kZ];intro i x hi;have hl:=(List.getElem?_eq_some_iff.1 hi).1;obtain ⟨cs,hcs⟩:∃ cs,css[i]?=some cs:=⟨css[i]'(by rw [h.len];exact hl),List.getElem?_eq_getElem _⟩
  refine ⟨z,0,cs,rfl,⟨by omega,kY h.own (by rw [hv];rfl)⟩,aB.keep (fun b hb=>⟨⟨hb.1,hb.2.1⟩,fun _=>rfl⟩) x cs (h.kid i x cs hi hcs),fun j y hj=>?_⟩;have hf:=Dc h6 i cs j y hcs hj;rw[←ht] at hf;rw[Nat.zero_add,cell_of_row w z _ cur _ (0,0) hh];have hlt:=(List.getElem?_eq_some_iff.1 hf).1;rw[List.getElem?_take_of_lt (by simp at hlt;omega)] at hf;simpa using hf
end
inductive Item where
  | course (x:Sx.Course)
  | pair (x:Sx.Pair)
  | prog (x:Sx.Prog)
  | cls (x:Sx.Cls)
  | Ar (x:Sx.tL)
  | clause (x:Sx.Clause)
def iV (w:World) (S:Nat→Prop):Item→List Value→Prop
  | .course x=>aV w S x
  | .pair x=>fq x
  | .prog x=>bS w S x
  | .cls x=>eu x
  | .Ar x=>gG x
  | .clause x=>bH x
def dA (c:Sx.dh):List (List Item):=[c.courses.map .course,c.same.map .pair,c.aS.map .prog,c.classes.map .cls,c.bZ.map .Ar,c.aJ.map .cls,c.clauses.map .clause]
def xQ:Nat→TypeId
  | 0=>58
  | 1=>71
  | 2=>78
  | 3=>82
  | 4=>86
  | 5=>82
  | _=>90
def pJ:Nat→Nat
  | 0=>16
  | 1=>4
  | 2=>7
  | 3=>4
  | 4=>2
  | 5=>4
  | _=>4
theorem iV.keep {w w':World} {S S':Nat→Prop} (hS:∀ b,S b→S' b∧∀ i,w'.cell? ⟨b,i,none⟩=w.cell? ⟨b,i,none⟩) {x:Item} {cs:List Value} (h:iV w S x cs):iV w' S' x cs:=by
  cases x with
  | course x=>exact aV.keep hS h
  | pair x=>exact h
  | prog x=>exact bS.keep hS h
  | cls x=>exact h
  | Ar x=>exact h
  | clause x=>exact h
def Rn (h:Nat) (vs:List Value) (w:World) (b:Nat):Prop:=h < b∧b < w.heap.size∧∀ u∈vs,u.ownBlock≠some b
structure DL (g h : Nat) (w w' : World) : Prop where
  aY:Below g w w'
  keep:∀ k,k < w.heap.size→k≠g→k≠h→w'.heap[k]?=w.heap[k]?
theorem DL.refl (g h:Nat) (w:World):DL g h w w:=⟨Below.refl _ _,fun _ _ _ _=>rfl⟩
theorem DL.trans {g h:Nat} {w w' w'':World} (h1:DL g h w w') (h2:eP g w' w''):DL g h w w'':=⟨h1.aY.trans h2.aY,fun k hk hg hh=>(h2.keep k (by have:=h1.aY.size;omega) hg).trans (h1.keep k hk hg hh)⟩
theorem DL.set {g h:Nat} {w w':World} (h1:DL g h w w') (hg:g < h) (i:Nat) (u:Value):DL g h w (w'.setCell ⟨h,i,none⟩ u):=
  ⟨h1.aY.setCell (show g≤h by omega) u,fun k hk hn hh=>(Below.heap_setCell w' ⟨h,i,none⟩ u k (show k≠h from hh)).trans (h1.keep k hk hn hh)⟩
structure jg (g B : Nat) (last : Int) (h : Nat) (w0 : World) (its : List (List Item)) (vs : List Value) (css : List (List (List Value))) (l : List Lx.Tok) (w : World) : Prop where
  ps:PS g B last l w
  fr:DL g h w0 w
  blk:aC w h 30 vs.toArray
  old:g < h
  lt:h < w0.heap.size
  EO:vs.length=7
  KM:its.length=7
  KN:css.length=7
  own:∀ (i:Nat) v rs,vs[i]?=some v→css[i]?=some rs→w.ownsRow w0.heap.size (xQ i) (pJ i) v rs.length rs.flatten
  Xl:∀ (i:Nat) rs,css[i]?=some rs→∀ cs∈rs,cs.length=pJ i
  apart:∀ (i j:Nat) v u b,vs[i]?=some v→vs[j]?=some u→i≠j→v.ownBlock=some b→u.ownBlock≠some b
  far:∀ u∈vs,u.ownBlock≠some h
  len:∀ (i:Nat) (is:List Item) (rs:List (List Value)),its[i]?=some is→css[i]?=some rs→rs.length=is.length
  el:∀ (i:Nat) (is:List Item) rs (k:Nat) x cs,its[i]?=some is→css[i]?=some rs→is[k]?=some x→rs[k]?=some cs→iV w (Rn h vs w) x cs
section
variable {g B : Nat} {last : Int} {h : Nat} {w0 w w' : World} {its : List (List Item)} {vs : List Value} {css : List (List (List Value))} {l l' : List Lx.Tok}
theorem jg.gh (H:jg g B last h w0 its vs css l w):g < h:=H.old
theorem jg.get (H:jg g B last h w0 its vs css l w) {i:Nat} (hi:i < 7):∃ v rs is,vs[i]?=some v∧css[i]?=some rs∧its[i]?=some is∧rs.length=is.length:=
  ⟨_,_,_,List.getElem?_eq_getElem (by rw [H.EO];exact hi),List.getElem?_eq_getElem (by rw [H.KN];exact hi),List.getElem?_eq_getElem (by rw [H.KM];exact hi),H.len i _ _ (List.getElem?_eq_getElem (by rw [H.KM];exact hi)) (List.getElem?_eq_getElem (by rw [H.KN];exact hi))⟩
theorem jg.Pt (H:jg g B last h w0 its vs css l w) {u:Value} (hu:u∈vs) {z:Nat} (hz:u.ownBlock=some z):w0.heap.size≤z∧z < w.heap.size:=by
  obtain ⟨i,hi⟩:=List.getElem?_of_mem hu;have hl:=(List.getElem?_eq_some_iff.1 hi).1;rw[H.EO] at hl;obtain ⟨v,rs,is,h1,h2,h3,h4⟩:=H.get hl;rw[hi] at h1;obtain rfl:u=v:=by simpa using h1
  have h5:=H.own i u rs hi h2;exact ⟨jY h5 hz,kY h5 hz⟩
theorem jg.ny (H:jg g B last h w0 its vs css l w) {u:Value} (hu:u∈vs) {z:Nat} (hz:u.ownBlock=some z):h < z∧z < w.heap.size:=by
  have h1:=H.Pt hu hz;have h2:=H.lt;exact ⟨by omega,h1.2⟩
theorem jg.step (H:jg g B last h w0 its vs css l w) (hf:eP g w w') (hs:PS g B last l' w'):jg g B last h w0 its vs css l' w':=
  ⟨hs,H.fr.trans hf,hf.blk H.blk (by have:=H.gh;omega),H.old,H.lt,H.EO,H.KM,H.KN,fun i v rs h1 h2=>qE hf (H.own i v rs h1 h2) (by have:=H.gh;have:=H.lt;omega),H.Xl,H.apart,H.far,H.len,
   fun i is rs k x cs h1 h2 h3 h4=>iV.keep (fun b hb=>⟨⟨hb.1,Nat.lt_of_lt_of_le hb.2.1 hf.aY.size,hb.2.2⟩,fun j=>hf.cell hb.2.1 (by have:=H.gh;have:=hb.1;omega) j⟩) (H.el i is rs k x cs h1 h2 h3 h4)⟩
theorem jg.grow {i gg cap lo:Nat} {v:Value} {rs:List (List Value)} {is:List Item} {x:Item} {cs:List Value} {w1 w3:World} (H:jg g B last h w0 its vs css l w) (hv:vs[i]?=some v) (hrs:css[i]?=some rs) (his:its[i]?=some is)
    (hx:iV w (fun b=>lo≤b∧b < w.heap.size) x cs) (hcs:cs.length=pJ i) (hlo:h < lo) (hrow:∀ u∈vs,∀ z,u.ownBlock=some z→z < lo)
    (hb1:Below w.heap.size w w1) (hgrow:w1.grownBy w3 v.ownBlock) (hat:v.ownBlock=some gg∨w.heap.size≤gg) (hown:w3.ownsRow w0.heap.size (xQ i) (pJ i) (.slice (some ⟨gg,0,none⟩) (rs.length+1) cap) (rs.length+1) (rs.flatten++cs)) :
    (w3.cell? ⟨h,i,none⟩=some v∧w3.frozen? ⟨h,i,none⟩=false)∧jg g B last h w0 (its.set i (is++[x])) (vs.set i (.slice (some ⟨gg,0,none⟩) (rs.length+1) cap)) (css.set i (rs++[cs])) l (w3.setCell ⟨h,i,none⟩ (.slice (some ⟨gg,0,none⟩) (rs.length+1) cap)):=by
  have hgh:=H.gh;have hhl:=H.blk.lt;have hz1:=hb1.size;have hz3:=hgrow.size;have Pv:v∈vs:=List.mem_of_getElem? hv;have UO:i < 7:=by have:=(List.getElem?_eq_some_iff.1 hv).1;rw[H.EO] at this;exact this
  have ZK:=H.far v Pv;have hbk:aC w3 h 30 vs.toArray:=(H.blk.below hb1 hhl).grown hgrow ZK;have hkeep:∀ b,b < w.heap.size→v.ownBlock≠some b→w3.heap[b]?=w.heap[b]?:=fun b hb hn=>(hgrow.block b (by omega) (fun e=>hn e.symm)).trans (hb1.block b hb);have hgo:v.ownBlock≠some g:=fun e=>by have:=(H.ny Pv e).1;omega
  have hF:DL g h w0 w3:=by
    refine ⟨H.fr.aY.trans (Below.grown (hb1.mono (by omega)) hgrow (by omega) (fun z hz=>by have:=(H.ny Pv hz).1;omega)),fun k hk hn hh=>?_⟩;have:=H.fr.aY.size;exact (hkeep k (by omega) (fun e=>by have:=(H.Pt Pv e).1;omega)).trans (H.fr.keep k hk hn hh)
  have hgg:h < gg:=by
    rcases hat with h1 | h1
    · exact (H.ny Pv h1).1
    · omega
  have hne:(Value.slice (some ⟨gg,0,none⟩) (rs.length+1) cap).ownBlock≠some h:=by
    intro e;have e1:gg=h:=by simpa [Value.ownBlock] using e
    omega
  have Oh:PS g B last l w3:=by
    obtain ⟨⟨A,c,q1,q2,q3⟩,hB⟩:=H.ps;have hbel:Below g w w3:=Below.grown (hb1.mono (by omega)) hgrow (by omega) (fun z hz=>by have:=(H.ny Pv hz).1;omega);exact ⟨⟨A,c,(q1.below hb1 q1.lt).grown hgrow hgo,q2.below hbel hB,q3⟩,hB⟩
  have VH:∀ b,b < w.heap.size→v.ownBlock≠some b→b≠gg:=fun b h1 h2 e=>by
    rcases hat with h3 | h3
    · exact h2 (by rw [e];exact h3)
    · omega
  have hsz:(w3.setCell ⟨h,i,none⟩ (.slice (some ⟨gg,0,none⟩) (rs.length+1) cap)).heap.size=w3.heap.size:=by simp [World.setCell]
  have hmem:∀ u∈vs.set i (.slice (some ⟨gg,0,none⟩) (rs.length+1) cap),u=(.slice (some ⟨gg,0,none⟩) (rs.length+1) cap)∨u∈vs:=fun u hu=>by
    rcases List.mem_or_eq_of_mem_set hu with h1 | h1
    · exact .inr h1
    · exact .inl h1
  have hS:∀ b,h < b→b < w.heap.size→(∀ u∈vs,u.ownBlock≠some b)→Rn h (vs.set i (.slice (some ⟨gg,0,none⟩) (rs.length+1) cap)) (w3.setCell ⟨h,i,none⟩ (.slice (some ⟨gg,0,none⟩) (rs.length+1) cap)) b∧∀ j,(w3.setCell ⟨h,i,none⟩ (.slice (some ⟨gg,0,none⟩) (rs.length+1) cap)).cell? ⟨b,j,none⟩=w.cell? ⟨b,j,none⟩:=fun b h1 h2 h3=>by
    refine ⟨⟨h1,by rw [hsz];omega,fun u hu e=>?_⟩,fun j=>World.cell?_of_block (a:=⟨b,j,none⟩) ((Below.heap_setCell w3 ⟨h,i,none⟩ _ b (show b≠h by omega)).trans (hkeep b h2 (h3 v Pv)))⟩
    rcases hmem u hu with rfl | h4
    · exact VH b h2 (h3 v Pv) (by simpa [Value.ownBlock] using e.symm)
    · exact h3 u h4 e
  have hget:∀ (j:Nat) u,(vs.set i (.slice (some ⟨gg,0,none⟩) (rs.length+1) cap))[j]?=some u→(i=j∧u = .slice (some ⟨gg,0,none⟩) (rs.length+1) cap)∨(i≠j∧vs[j]?=some u):=fun j u hu=>by
    by_cases e:i=j
    · subst e;rw[List.getElem?_set_self (by rw [H.EO];exact UO)] at hu;exact .inl ⟨rfl,by simpa using hu.symm⟩
    · rw[List.getElem?_set_ne e] at hu;exact .inr ⟨e,hu⟩
  have hgc:∀ (j:Nat) q,(css.set i (rs++[cs]))[j]?=some q→(i=j∧q=rs++[cs])∨(i≠j∧css[j]?=some q):=fun j q hq=>by
    by_cases e:i=j
    · subst e;rw[List.getElem?_set_self (by rw [H.KN];exact UO)] at hq;exact .inl ⟨rfl,by simpa using hq.symm⟩
    · rw[List.getElem?_set_ne e] at hq;exact .inr ⟨e,hq⟩
  have hgi:∀ (j:Nat) q,(its.set i (is++[x]))[j]?=some q→(i=j∧q=is++[x])∨(i≠j∧its[j]?=some q):=fun j q hq=>by
    by_cases e:i=j
    · subst e;rw[List.getElem?_set_self (by rw [H.KM];exact UO)] at hq;exact .inl ⟨rfl,by simpa using hq.symm⟩
    · rw[List.getElem?_set_ne e] at hq;exact .inr ⟨e,hq⟩
  have hap:∀ (j:Nat) u,vs[j]?=some u→i≠j→u.ownBlock≠some gg:=fun j u hu hij e=>by
    rcases hat with h1 | h1
    · exact H.apart i j v u gg hv hu hij h1 e
    · have:=(H.ny (List.mem_of_getElem? hu) e).2;omega
  refine ⟨⟨?_,?_⟩,?_⟩
  · rw[hbk.cell i];simpa using hv
  · exact hbk.free i
  refine ⟨Oh.iI hgh i _,hF.set hgh i _,?_,H.old,H.lt,by simp [H.EO],by simp [H.KM],by simp [H.KN],?_,?_,?_,?_,?_,?_⟩
  · have:=hbk.set i (.slice (some ⟨gg,0,none⟩) (rs.length+1) cap);simpa using this
  · intro j u q hu hq
    rcases hget j u hu with ⟨rfl,rfl⟩ | ⟨e,hu⟩
    · rcases hgc i q hq with ⟨-,rfl⟩ | ⟨e2,-⟩
      · rw[show (rs++[cs]).length=rs.length+1 by simp,show (rs++[cs]).flatten=rs.flatten++cs by simp];exact ownsRow_setCell_other hown hne _
      · exact absurd rfl e2
    · rcases hgc j q hq with ⟨e2,-⟩ | ⟨-,hq⟩
      · exact absurd e2 e
      · have hum:=List.mem_of_getElem? hu;have h0:=qE (eP.below hb1 (by omega)) (H.own j u q hu hq) (by have:=H.lt;omega);refine ownsRow_setCell_other (h0.kept hgrow ?_) (H.far u hum) _;cases hub:u.ownBlock with
        | none=>exact .inl rfl
        | some z=>exact .inr fun e3=>H.apart j i u v z hu hv (fun e4=>e e4.symm) hub e3.symm
  · intro j q hq
    rcases hgc j q hq with ⟨rfl,rfl⟩ | ⟨-,hq⟩
    · intro d hd
      rcases List.mem_append.1 hd with h1 | h1
      · exact H.Xl i rs hrs d h1
      · obtain rfl:d=cs:=by simpa using h1
        exact hcs
    · exact H.Xl j q hq
  · intro j k u u' b hu hu' hjk hb
    rcases hget j u hu with ⟨rfl,rfl⟩ | ⟨e,hu⟩
    · rcases hget k u' hu' with ⟨rfl,-⟩ | ⟨e2,hu'⟩
      · exact absurd rfl hjk
      · have:gg=b:=by simpa [Value.ownBlock] using hb
        subst this;exact hap k u' hu' e2
    · rcases hget k u' hu' with ⟨rfl,rfl⟩ | ⟨e2,hu'⟩
      · intro e3;have:gg=b:=by simpa [Value.ownBlock] using e3
        subst this;exact hap j u hu e hb
      · exact H.apart j k u u' b hu hu' hjk hb
  · intro u hu
    rcases hmem u hu with rfl | h1
    · exact hne
    · exact H.far u h1
  · intro j q q' hq hq'
    rcases hgi j q hq with ⟨rfl,rfl⟩ | ⟨e,hq⟩
    · rcases hgc i q' hq' with ⟨-,rfl⟩ | ⟨e2,-⟩
      · simp[H.len i is rs his hrs]
      · exact absurd rfl e2
    · rcases hgc j q' hq' with ⟨e2,-⟩ | ⟨-,hq'⟩
      · exact absurd e2 e
      · exact H.len j q q' hq hq'
  · intro j q q' k y d hq hq' hy hd;have hold:∀ (j:Nat) q q' (k:Nat) y d,its[j]?=some q→css[j]?=some q'→q[k]?=some y→q'[k]?=some d→iV (w3.setCell ⟨h,i,none⟩ (.slice (some ⟨gg,0,none⟩) (rs.length+1) cap)) (Rn h (vs.set i (.slice (some ⟨gg,0,none⟩) (rs.length+1) cap)) (w3.setCell ⟨h,i,none⟩ (.slice (some ⟨gg,0,none⟩) (rs.length+1) cap))) y d:=fun j q q' k y d h1 h2 h3 h4=>
      iV.keep (fun b hb=>hS b hb.1 hb.2.1 hb.2.2) (H.el j q q' k y d h1 h2 h3 h4)
    rcases hgi j q hq with ⟨rfl,rfl⟩ | ⟨e,hq⟩
    · rcases hgc i q' hq' with ⟨-,rfl⟩ | ⟨e2,-⟩
      · have hlen:=H.len i is rs his hrs
        rcases Nat.lt_or_ge k is.length with hk | hk
        · rw[List.getElem?_append_left hk] at hy;rw[List.getElem?_append_left (by rw [hlen];exact hk)] at hd;exact hold i is rs k y d his hrs hy hd
        · rw[List.getElem?_append_right hk] at hy;rw[List.getElem?_append_right (by rw [hlen];exact hk),hlen] at hd;cases hm:k - is.length with
          | succ m=>rw [hm] at hy;simp at hy
          | zero=>
            rw[hm] at hy hd;simp at hy hd;subst hy;subst hd;exact iV.keep (fun b hb=>hS b (by have:=hb.1;omega) hb.2 (fun u hu e=>by have:=hrow u hu b e;have:=hb.1;omega)) hx
      · exact absurd rfl e2
    · rcases hgc j q' hq' with ⟨e2,-⟩ | ⟨-,hq'⟩
      · exact absurd e2 e
      · exact hold j q q' k y d hq hq' hy hd
theorem Df {m:Nat} : ∀ {css:List (List Value)} (_:∀ cs∈css,cs.length=m) (i:Nat) (cs:List Value) (j:Nat) (x:Value),css[i]?=some cs→cs[j]?=some x→css.flatten[i*m+j]?=some x
  | [],_,i,cs,j,x,hi,_=>by simp at hi
  | c::css,h6,0,cs,j,x,hi,hj=>by
    obtain rfl:c=cs:=by simpa using hi
    rw[List.flatten_cons,Nat.zero_mul,Nat.zero_add,List.getElem?_append_left (List.getElem?_eq_some_iff.1 hj).1];exact hj
  | c::css,h6,i+1,cs,j,x,hi,hj=>by
    have h1:=h6 c (by simp);rw[List.flatten_cons,List.getElem?_append_right (by rw [h1,Nat.add_mul];omega),h1,show (i+1)*m+j - m=i*m+j by rw [Nat.add_mul];omega];exact Df (fun d hd=>h6 d (by simp [hd])) i cs j x (by simpa using hi) hj
theorem wu {α:Type} {w:World} {base sz n:Nat} {e:TypeId} {v:Value} {rs:List (List Value)} {xs:List α} {S:Nat→Prop} {P:α→List Value→Prop} (ho:w.ownsRow base e sz v n rs.flatten) (hl:rs.length=xs.length) (hn:n=xs.length) (hsz:∀ cs∈rs,cs.length=sz)
    (hP:∀ (k:Nat) x cs,xs[k]?=some x→rs[k]?=some cs→P x cs) (hS:∀ z,v.ownBlock=some z→S z) (hm:xs.length≤140737488351232):∃ A c,v = .slice A xs.length c∧Row w S A sz P xs:=by
  rcases ho.2 with ⟨hv,h0⟩ | ⟨z,cap,cur,hv,hg,hh,hc,hm2,hs,ht⟩
  · have:xs = []:=List.length_eq_zero_iff.1 (by omega);subst this;exact ⟨none,0,by rw [hv];rfl,Row.nil _ _ _ _ _⟩
  · refine ⟨some ⟨z,0,none⟩,cap,by rw [hv,hn],fun k x hk=>?_,hm⟩;have hl2:=(List.getElem?_eq_some_iff.1 hk).1;obtain ⟨cs,hcs⟩:∃ cs,rs[k]?=some cs:=⟨rs[k]'(by rw [hl];exact hl2),List.getElem?_eq_getElem _⟩
    refine ⟨z,0,cs,rfl,hS z (by rw [hv];rfl),hP k x cs hk hcs,fun j y hj=>?_⟩;have hf:=Df hsz k cs j y hcs hj;rw[←ht] at hf;rw[Nat.zero_add,cell_of_row w z _ cur _ (0,0) hh];have hlt:=(List.getElem?_eq_some_iff.1 hf).1;rw[List.getElem?_take_of_lt (by simp at hlt;omega)] at hf;simpa using hf
end
theorem jg.start {g B:Nat} {last:Int} {h:Nat} {w0 w:World} {l:List Lx.Tok} (hps:PS g B last l w) (hfr:DL g h w0 w) (hold:g < h) (hlt:h < w0.heap.size) (hblk:aC w h 30 #[.slice none 0 0,.slice none 0 0,.slice none 0 0,.slice none 0 0,.slice none 0 0,.slice none 0 0,.slice none 0 0]) :
    jg g B last h w0 (dA Sx.dh.none) [.slice none 0 0,.slice none 0 0,.slice none 0 0,.slice none 0 0,.slice none 0 0,.slice none 0 0,.slice none 0 0] [[],[],[],[],[],[],[]] l w:=by
  have hv:∀ (i:Nat) v,([.slice none 0 0,.slice none 0 0,.slice none 0 0,.slice none 0 0,.slice none 0 0,.slice none 0 0,.slice none 0 0]:List Value)[i]?=some v→v = .slice none 0 0:=fun i v hi=>by
    have:=List.mem_of_getElem? hi;simpa using this
  have hr:∀ (i:Nat) rs,([[],[],[],[],[],[],[]]:List (List (List Value)))[i]?=some rs→rs = []:=fun i rs hi=>by
    have:=List.mem_of_getElem? hi;simpa using this
  have hi:∀ (i:Nat) is,(dA Sx.dh.none)[i]?=some is→is = []:=fun i is hi=>by
    have:=List.mem_of_getElem? hi;simpa[dA,Sx.dh.none] using this
  refine ⟨hps,hfr,hblk,hold,hlt,rfl,rfl,rfl,fun i v rs h1 h2=>?_,fun i rs h1=>?_,fun i j v u b h1 _ _ hb=>?_,fun u hu=>?_,fun i is rs h1 h2=>?_,fun i is rs k x cs h1 _ h3 _=>?_⟩
  · rw[hv i v h1,hr i rs h2];exact World.ownsRow_nil _ _ _ _
  · rw[hr i rs h1];simp
  · rw[hv i v h1] at hb;simp[Value.ownBlock] at hb
  · have:u = .slice none 0 0:=by simpa using hu
    rw[this];simp[Value.ownBlock]
  · rw[hi i is h1,hr i rs h2];rfl
  · rw[hi i is h1] at h3;simp at h3
theorem Row.ofMap {α:Type} {w:World} {S:Nat→Prop} {A:Option Addr} {sz:Nat} {P:Item→List Value→Prop} {Q:α→List Value→Prop} (f:α→Item) (hPQ:∀ x cs,P (f x) cs→Q x cs) {xs:List α} (h:Row w S A sz P (xs.map f)):Row w S A sz Q xs:=
  ⟨fun k x hk=>by
    obtain ⟨b,o,cs,h1,h2,h3,h4⟩:=h.at_ k (f x) (by simp [hk]);exact ⟨b,o,cs,h1,h2,hPQ x cs h3,h4⟩,by have:=h.len;simpa using this⟩
theorem jg.out {g B:Nat} {last:Int} {h:Nat} {w0 w:World} {c:Sx.dh} {vs:List Value} {css:List (List (List Value))} {l:List Lx.Tok} (H:jg g B last h w0 (dA c) vs css l w) (gT:∀ is∈dA c,is.length≤140737488351232):bE w (fun b=>h < b∧b < w.heap.size) c vs:=by
  have hall:∀ i,i < 7→∃ v A n is,vs[i]?=some v∧(dA c)[i]?=some is∧v = .slice A is.length n∧Row w (fun b=>h < b∧b < w.heap.size) A (pJ i) (iV w (fun b=>h < b∧b < w.heap.size)) is:=fun i hi=>by
    obtain ⟨v,rs,is,h1,h2,h3,h4⟩:=H.get hi;obtain ⟨A,n,h5,h6⟩:=wu (S:=fun b=>h < b∧b < w.heap.size) (P:=iV w (fun b=>h < b∧b < w.heap.size)) (H.own i v rs h1 h2) h4 h4 (H.Xl i rs h2) (fun k x cs hx hcs=>iV.keep (fun b hb=>⟨⟨hb.1,hb.2.1⟩,fun _=>rfl⟩) (H.el i is rs k x cs h3 h2 hx hcs)) (fun z hz=>H.ny (List.mem_of_getElem? h1) hz) (gT is (List.mem_of_getElem? h3));exact ⟨v,A,n,is,h1,h3,h5,h6⟩
  obtain ⟨v0,A0,n0,i0,a0,b0,c0,d0⟩:=hall 0 (by omega);obtain ⟨v1,A1,n1,i1,a1,b1,c1,d1⟩:=hall 1 (by omega);obtain ⟨v2,A2,n2,i2,a2,b2,c2,d2⟩:=hall 2 (by omega);obtain ⟨v3,A3,n3,i3,a3,b3,c3,d3⟩:=hall 3 (by omega);obtain ⟨v4,A4,n4,i4,a4,b4,c4,d4⟩:=hall 4 (by omega);obtain ⟨v5,A5,n5,i5,a5,b5,c5,d5⟩:=hall 5 (by omega);obtain ⟨v6,A6,n6,i6,a6,b6,c6,d6⟩:=hall 6 (by omega);simp only[dA,List.getElem?_cons_zero,List.getElem?_cons_succ,Option.some.injEq] at b0 b1 b2 b3 b4 b5 b6;subst b0;subst b1;subst b2;subst b3;subst b4;subst b5;subst b6;simp only[List.length_map] at c0 c1 c2 c3 c4 c5 c6
  subst c0;subst c1;subst c2;subst c3;subst c4;subst c5;subst c6;refine ⟨A0,n0,A1,n1,A2,n2,A3,n3,A4,n4,A5,n5,A6,n6,?_,d0.ofMap _ fun _ _ h=>h,d1.ofMap _ fun _ _ h=>h,d2.ofMap _ fun _ _ h=>h,d3.ofMap _ fun _ _ h=>h,d4.ofMap _ fun _ _ h=>h,d5.ofMap _ fun _ _ h=>h,d6.ofMap _ fun _ _ h=>h⟩;have hl:=H.EO;obtain ⟨y0,y1,y2,y3,y4,y5,y6,hvs⟩:∃ y0 y1 y2 y3 y4 y5 y6,vs = [y0,y1,y2,y3,y4,y5,y6]:=by
    match vs,hl with
    | [y0,y1,y2,y3,y4,y5,y6],_=>exact ⟨_,_,_,_,_,_,_,rfl⟩
  rw[hvs] at a0 a1 a2 a3 a4 a5 a6 ⊢;simp at a0 a1 a2 a3 a4 a5 a6;subst a0;subst a1;subst a2;subst a3;subst a4;subst a5;subst a6;rfl
theorem jg.drew {g B:Nat} {last:Int} {h:Nat} {w0 w:World} {its:List (List Item)} {vs:List Value} {css:List (List (List Value))} {l:List Lx.Tok} (H:jg g B last h w0 its vs css l w):jg g B last h w0 its vs css l w.drew:=
  H.step (eP.below (Below.refl _ _).drew H.ps.lt) (H.ps.next (Below.refl _ _).drew)
theorem jg.step_append {P:Program} {g B:Nat} {last:Int} {h:Nat} {w0 w:World} {its:List (List Item)} {vs:List Value} {css:List (List (List Value))} {l:List Lx.Tok} {i lo:Nat} {v:Value} {rs:List (List Value)} {is:List Item} {x:Item} {cs:List Value} (H:jg g B last h w0 its vs css l w)
    (hv:vs[i]?=some v) (hrs:css[i]?=some rs) (his:its[i]?=some is) (hx:iV w (fun b=>lo≤b∧b < w.heap.size) x cs) (hcs:cs.length=pJ i) (hlo:h < lo) (hrow:∀ u∈vs,∀ z,u.ownBlock=some z→z < lo) (gT:rs.length≤1000000)
    {ops:Array Oper} {o:Oper} {a:Act} {K:Act→World→Prop} {Q:Exit→Act→World→Prop} {E:Prop} (hgd:o.guard=none) (s y:Operand) (t:TypeId)
    (ho:o.op = .call { callee:=.builtin .append,args:=#[s,y],argTypes:=#[t,t] }) (inf:TypeInfo) (z:Value) (bytes:Nat) (ht:P.underlying t=some (.slice (xQ i))) (hi:P.info? (xQ i)=some inf) (hz:inf.zero=some z)
    (hsize:inf.size=pJ i) (hby:inf.bytes=bytes) (hzs:z.cells.size=pJ i) (hbytes:bytes≤10000) (hs:a.eval s=v) (hy:a.eval y = .slice (some ⟨w.heap.size,0,none⟩) 1 1) (h1:∀ u∈cs,u.oneCell'=true)
    (hK:∀ gg cap w3,w3.cell? ⟨h,i,none⟩=some v→w3.frozen? ⟨h,i,none⟩=false→jg g B last h w0 (its.set i (is++[x])) (vs.set i (.slice (some ⟨gg,0,none⟩) (rs.length+1) cap)) (css.set i (rs++[cs])) l (w3.setCell ⟨h,i,none⟩ (.slice (some ⟨gg,0,none⟩) (rs.length+1) cap))→K (a.put o.dst (.slice (some ⟨gg,0,none⟩) (rs.length+1) cap)) w3) :
    if Region.wanted o (yielded ops a.tmps)=true then Oper.wp P o a (w.alloc (.cells cs.toArray (xQ i))) K Q else E:=by
  have hhl:=H.blk.lt;have hpos:0 < pJ i:=by
    unfold pJ
    split <;> omega
  refine step_append_lies _ hgd s y t ho w0.heap.size (xQ i) inf z (pJ i) bytes ht hi hz hsize hby hzs hpos v rs.length rs.flatten hs ((H.own i v rs hv hrs).alloc _) ⟨w.heap.size,0,none⟩ 1 1 cs hy (by rw [hcs,Nat.one_mul]) (World.news_of_block (cs:=cs.toArray) (t:=xQ i) (fr:=(0,0)) (heap_alloc_new w _)) h1 (by omega) (by unfold maxLen;omega) ?_ (by have:=H.fr.aY.size;simp;omega) (w.heap.size+1) (by simp) ?_
  · exact Nat.le_trans (Nat.mul_le_mul (show rs.length+1≤1000001 by omega) hbytes) (by omega)
  · intro gg cap w3 hown hgrow hat hlt;have hG:=H.grow hv hrs his hx hcs hlo hrow ((Below.refl _ _).alloc (Nat.le_refl _) _) hgrow (hat.imp id (fun h=>by omega)) hown;exact hK gg cap w3 hG.1.1 hG.1.2 hG.2
structure jl (g B : Nat) (last : Int) (l : List Lx.Tok) (p : Nat) (t : TypeId) (cs : Array Value) (w0 w : World) : Prop where
  ps:PS g B last l w
  fr:eP g w0 w
  blk:aC w p t cs
  old:w0.heap.size≤p
  lt:g < w0.heap.size
section
variable {g B : Nat} {last : Int} {l l' : List Lx.Tok} {p : Nat} {t : TypeId} {cs : Array Value} {w0 w w' : World}
theorem jl.step (h:jl g B last l p t cs w0 w) (hf:eP g w w') (hs:PS g B last l' w'):jl g B last l' p t cs w0 w':=
  ⟨hs,h.fr.trans hf,hf.blk h.blk (by have:=h.old;have:=h.lt;omega),h.old,h.lt⟩
theorem jl.set (h:jl g B last l p t cs w0 w) (i:Nat) (u:Value):jl g B last l p t (cs.setIfInBounds i u) w0 (w.setCell ⟨p,i,none⟩ u):=
  ⟨h.ps.iI (by have:=h.old;have:=h.lt;omega) i u,h.fr.iI h.lt h.old i u,h.blk.set i u,h.old,h.lt⟩
theorem jl.alloc (h:jl g B last l p t cs w0 w) (o:Obj):jl g B last l p t cs w0 (w.alloc o):=
  ⟨h.ps.alloc o,h.fr.alloc h.lt o,h.blk.alloc o,h.old,h.lt⟩
theorem jl.drew (h:jl g B last l p t cs w0 w):jl g B last l p t cs w0 w.drew:=
  ⟨h.ps.next (Below.refl _ _).drew,h.fr.trans (eP.below (Below.refl _ _).drew (by have:=h.lt;have:=h.fr.aY.size;omega)),h.blk.drew,h.old,h.lt⟩
theorem jl.far (h:jl g B last l p t cs w0 w) {b:Nat} (hb:p≠b) (ho:w0.heap.size≤b) (i:Nat) (u:Value):jl g B last l p t cs w0 (w.setCell ⟨b,i,none⟩ u):=
  ⟨h.ps.iI (by have:=h.lt;omega) i u,h.fr.iI h.lt ho i u,h.blk.far (p:=⟨b,i,none⟩) hb u,h.old,h.lt⟩
theorem jl.new (h:jl g B last l p t cs w0 w) (t':TypeId) (cs':Array Value):jl g B last l w.heap.size t' cs' w0 (w.alloc (.cells cs' t')):=
  ⟨h.ps.alloc _,h.fr.alloc h.lt _,aC.new w t' cs',h.fr.aY.size,h.lt⟩
theorem jl.start (h:PS g B last l w) (t:TypeId) (cs:Array Value):jl g B last l w.heap.size t cs w (w.alloc (.cells cs t)):=
  ⟨h.alloc _,(eP.refl g w).alloc h.lt _,aC.new w t cs,Nat.le_refl _,h.lt⟩
end
def aP (g B:Nat) (last:Int) (h:Nat) (w0:World) (r:Sx.R Sx.dh) (e:Ending) (w':World):Prop:=
  match r with
  | .ok c l=>e = .returned (.tuple #[])∧∃ vs css,jg g B last h w0 (dA c) vs css l w'
  | .bad p x=>iL p x e∧DL g h w0 w'
theorem aP.aM {g B:Nat} {last:Int} {h:Nat} {w0 w':World} {r:Sx.R Sx.dh} {p x:Int} (hr:r = .bad p x) (hf:DL g h w0 w'):aP g B last h w0 r (.panicked [{ v:=.iface 141 (.agg #[.int .i64 p,.int .i64 x]),recovered:=false }]) w':=by
  rw[hr];exact ⟨rfl,hf⟩
theorem aP.sU {g B:Nat} {last:Int} {h:Nat} {w0 w':World} {r:Sx.R Sx.dh} {c:Sx.dh} {l:List Lx.Tok} {its:List (List Item)} {vs:List Value} {css:List (List (List Value))} (hr:r = .ok c l) (hi:dA c=its) (H:jg g B last h w0 its vs css l w'):aP g B last h w0 r (.returned (.tuple #[])) w':=by
  rw[hr];exact ⟨rfl,vs,css,by rw [hi];exact H⟩
def Cn (N:Nat) (f:Nat) (F:Int→Sx.dh→List Lx.Tok→Sx.R Sx.dh):Prop:=∀ (g B h:Nat) (l:List Lx.Tok) (last:Int) (w0 w:World) (c:Sx.dh) (vs:List Value) (css:List (List (List Value))),jg g B last h w0 (dA c) vs css l w→d9 N w→N≤g→(∀ is∈dA c,is.length≤1000000)→l.length≤1000000→
  Calls Tryz.prog f #[.pointer (some ⟨g,0,none⟩),.pointer (some ⟨h,0,none⟩)] w (aP g B last h w0 (F last c l))
theorem Sx.R.rG {α β γ:Type} (r:Sx.R α) (f:α→List Lx.Tok→Sx.R β) (h:β→List Lx.Tok→Sx.R γ):(r.bind f).bind h=r.bind fun a s=>(f a s).bind h:=by cases r <;> rfl
theorem Tryz.infoPair:(Tryz.prog.info? 71).map (fun i=>(i.zero,i.size,i.bytes))=some (some (.agg #[.string ⟨#[]⟩,.string ⟨#[]⟩,.int .i64 0,.int .i64 0]),4,48):=by kernel_rfl
set_option maxRecDepth 20000 in
set_option maxHeartbeats 2000000 in
theorem UM (N:Nat):Cn N 85 fun last c l=>(Sx.same last l).bind fun x l=>.ok { c with same:=c.same++[x] } l:=by
 intro g B h l last w0 w c vs css H he hN gT hl;obtain ⟨R,hR⟩:∃ R,R=(Sx.same last l).bind fun x l=>(.ok { c with same:=c.same++[x] } l:Sx.R Sx.dh):=⟨_,rfl⟩
 show Calls _ _ _ _ (aP g B last h w0 ((Sx.same last l).bind fun x l=>(.ok { c with same:=c.same++[x] } l:Sx.R Sx.dh)));rw[←hR];replace hR:R=(Sx.ref last l).bind fun a l=>(Sx.sign last 61 l).bind fun _ l=>(Sx.ref last l).bind fun b l=>(Sx.sign last 59 l).bind fun _ l=>.ok { c with same:=c.same++[⟨a.1,b.1,a.2,b.2⟩] } l:=by rw [hR];simp only[Sx.same,Sx.R.rG,Sx.fU]
 have HR:=Lh hR;have HC:=Lh H;have hlt:=H.ps.lt;have hgl:h < w.heap.size:=H.blk.lt;have hgh:=H.gh;have L:=Lh (jl.start H.ps 71 #[.string ⟨#[]⟩,.string ⟨#[]⟩,.int .i64 0,.int .i64 0]);obtain ⟨i0,hi0,hz0,hz1,hz2⟩:=info_parts Tryz.infoPair;obtain ⟨v,rs,is,hv1,ni,iB,hrl⟩:=H.get (i:=1) (by omega);have hrf:rs.length≤1000000:=by rw [hrl];exact gT is (List.mem_of_getElem? iB)
 have nu:is=c.same.map .pair:=by simpa [dA] using iB.symm
 have hrow:=fun u (hu:u∈vs) z (hz:u.ownBlock=some z)=>(H.ny hu hz).2;have um:=Lh hrow;have HI:=Lh (And.intro hv1 (And.intro ni iB));have HIS:=Lh nu;clear H hR hrow hv1 ni iB hrl gT nu he;go_enter Tryz.func85,Tryz.ntmps85;go_wp2_with fail;refine (IB g B l last _ L.out.ps).mono ?_;intro e w1 he
 rcases he.split with ⟨p,x,hv,rfl,hf⟩ | ⟨a,l1,u,hv,rfl,hV,hs,hf⟩
 ·exact ⟨rfl,aP.aM (Sx.aR HR.out hv) (HC.out.fr.trans (L.out.fr.trans hf))⟩
 obtain ⟨hV,hal⟩:=hV;unfold bB at hV;subst hV;replace HR:=Lh (Sx.go_ok HR.out hv);have L1:=L.out.step hf hs;have q0:=L1.blk.cell 0;have BK:=L1.blk.free 0;have q2:=L1.blk.cell 2;have yA:=L1.blk.free 2;simp at q0 q2;have hp1:=L1.blk.lt;have L2:Hid (jl g B last l1 w.heap.size 71 #[.string (Lx.bs a.1),.string ⟨#[]⟩,.int .i64 a.2,.int .i64 0] w ((w1.setCell ⟨w.heap.size,0,none⟩ (.string (Lx.bs a.1))).setCell ⟨w.heap.size,2,none⟩ (.int .i64 a.2))):=Lh (by have:=(L1.set 0 (.string (Lx.bs a.1))).set 2 (.int .i64 a.2);simpa using this);have Hal:=Lh hal;clear hv hs hf he L1 L hal;go_wp2_with fail
 refine (iA g B l1 last 61 _ L2.out.ps).mono ?_;intro e w2 he
 rcases he.split with ⟨p,x,hv,rfl,hf⟩ | ⟨u,l2,u',hv,rfl,hV,hs,hf⟩
 ·exact ⟨rfl,aP.aM (Sx.aR HR.out hv) (HC.out.fr.trans (L2.out.fr.trans hf))⟩
 unfold fQ at hV;subst hV;replace HR:=Lh (Sx.go_ok HR.out hv);have L3:=Lh (L2.out.step hf hs);clear hv hs hf he L2 q0 q2 BK yA hp1;go_wp2_with fail;refine (IB g B l2 last _ L3.out.ps).mono ?_;intro e w3 he
 rcases he.split with ⟨p,x,hv,rfl,hf⟩ | ⟨b,l3,u,hv,rfl,hV,hs,hf⟩
 ·exact ⟨rfl,aP.aM (Sx.aR HR.out hv) (HC.out.fr.trans (L3.out.fr.trans hf))⟩
 obtain ⟨hV,hbl⟩:=hV;unfold bB at hV;subst hV;replace HR:=Lh (Sx.go_ok HR.out hv);have L4:=L3.out.step hf hs;have q1:=L4.blk.cell 1;have C8:=L4.blk.free 1;have q3:=L4.blk.cell 3;have sQ:=L4.blk.free 3;simp at q1 q3;have hp1:=L4.blk.lt;have L5:Hid (jl g B last l3 w.heap.size 71 #[.string (Lx.bs a.1),.string (Lx.bs b.1),.int .i64 a.2,.int .i64 b.2] w ((w3.setCell ⟨w.heap.size,1,none⟩ (.string (Lx.bs b.1))).setCell ⟨w.heap.size,3,none⟩ (.int .i64 b.2))):=Lh (by have:=(L4.set 1 (.string (Lx.bs b.1))).set 3 (.int .i64 b.2);simpa using this);have Hbl:=Lh hbl;clear hv hs hf he L4 L3 hbl
 go_wp2_with fail;refine (iA g B l3 last 59 _ L5.out.ps).mono ?_;intro e w4 he
 rcases he.split with ⟨p,x,hv,rfl,hf⟩ | ⟨u,l4,u',hv,rfl,hV,hs,hf⟩
 ·exact ⟨rfl,aP.aM (Sx.aR HR.out hv) (HC.out.fr.trans (L5.out.fr.trans hf))⟩
 unfold fQ at hV;subst hV;replace HR:=Lh (Sx.go_ok HR.out hv);have L6:=L5.out.step hf hs;have q0:=L6.blk.cell 0;have q1:=L6.blk.cell 1;have q2:=L6.blk.cell 2;have q3:=L6.blk.cell 3;simp at q0 q1 q2 q3;have SN:=L6.blk.lt;have C6:=HC.out.step L6.fr L6.ps;have c1:w4.cell? ⟨h,1,none⟩=some v:=by rw [C6.blk.cell 1];simpa using HI.out.1
 have hh4:=C6.blk.lt;have Y2:=Lh C6.drew;clear hv hs hf he L5 L6 C6 HC;go_wp2_with fail
 go_region_law (refine Y2.out.step_append (i:=1) (lo:=w.heap.size) (x:=.pair ⟨a.1,b.1,a.2,b.2⟩) (cs:=[.string (Lx.bs a.1),.string (Lx.bs b.1),.int .i64 a.2,.int .i64 b.2]) HI.out.1 HI.out.2.1 HI.out.2.2 ⟨rfl,Hal.out,Hbl.out⟩ rfl hgl um.out hrf rfl _ _ _ rfl i0 _ 48 Tryz.underlying24 hi0 hz0 hz1 hz2 rfl (by omega) rfl rfl (by simp [Value.oneCell']) ?_;intro gg cap w5 d1 Nr HP)
 all_goals
  go_end0
  exact aP.sU HR.out (by rw [HIS.out];simp[dA]) HP
end Go.Proofs.YtjonaidancomgaaGreatDoor
