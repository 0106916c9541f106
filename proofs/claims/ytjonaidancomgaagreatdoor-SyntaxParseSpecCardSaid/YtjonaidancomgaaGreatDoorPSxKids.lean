/- Parts of the proof, joined into one text: SxKids, SxCat, SxDefs. -/
import Derived.Test.YtjonaidancomgaaGreatDoorPSxRule
import Derived.Outline

namespace Go.Proofs.YtjonaidancomgaaGreatDoor
open Go.RowKit

theorem own_frg {g:Nat} {w w':World} (h:FrG g w w') {b s n:Nat} {e:TypeId} {v:Value} {x:List Value} (ho:w.ownsRow b e s v n x) (hb:g < b):w'.ownsRow b e s v n x:=by
 have hge:=fun z (hz:v.ownBlock=some z)=>own_ge ho hz
 have hlt:=fun z (hz:v.ownBlock=some z)=>own_lt ho hz
 obtain ⟨p1,p2⟩:=ho
 refine ⟨p1,?_⟩
 rcases p2 with p2 | ⟨z,cap,cur,hv,hg,hh,r⟩
 ·exact .inl p2
 ·have hz:v.ownBlock=some z:=by rw [hv];rfl
  have h1:=hge z hz
  have h2:=hlt z hz
  exact .inr ⟨z,cap,cur,hv,hg,(h.keep z h2 (by omega)).trans hh,r⟩
structure KidI (g B : Nat) (last : Int) (p : Nat) (op n : Int) (w0 : World) (ks : List Sx.Rule) (css : List (List Value)) (v : Value) (l : List Lx.Tok) (w : World) : Prop where
 st:RSt g B last l p #[.int .i64 op,.int .i64 0,.string ⟨#[]⟩,.int .i64 n,.int .i64 0,v] w0 w
 own:w.ownsRow p 38 6 v ks.length css.flatten
 len:css.length=ks.length
 kid:∀ (i:Nat) r cs,ks[i]?=some r→css[i]?=some cs→RuleAt w (fun b=>p < b∧b < w.heap.size∧v.ownBlock≠some b) r cs
 far:v.ownBlock≠some p
section
variable {g B : Nat} {last : Int} {p : Nat} {op n : Int} {w0 w w' : World} {ks : List Sx.Rule} {css : List (List Value)} {v : Value} {l l' : List Lx.Tok}
theorem KidI.gp (h:KidI g B last p op n w0 ks css v l w):g < p:=by have:=h.st.old;have:=h.st.lt;omega
theorem KidI.step (h:KidI g B last p op n w0 ks css v l w) (hf:FrG g w w') (hs:PS g B last l' w'):KidI g B last p op n w0 ks css v l' w':=
 ⟨h.st.step hf hs,own_frg hf h.own h.gp,h.len,fun i r cs h1 h2=>RuleAt.keep (fun b hb=>⟨⟨hb.1,Nat.lt_of_lt_of_le hb.2.1 hf.bel.size,hb.2.2⟩,fun j=>hf.cell hb.2.1 (by have:=h.gp;have:=hb.1;omega) j⟩) r cs (h.kid i r cs h1 h2),h.far⟩
theorem KidI.start (h:RSt g B last l p #[.int .i64 op,.int .i64 0,.string ⟨#[]⟩,.int .i64 n,.int .i64 0,.slice none 0 0] w0 w):KidI g B last p op n w0 [] [] (.slice none 0 0) l w:=
 ⟨h,⟨rfl,.inl ⟨rfl,rfl⟩⟩,rfl,fun i r cs h1 _=>by simp at h1,by simp [Value.ownBlock]⟩
theorem KidI.grow {gg cap lo:Nat} {r:Sx.Rule} {cs:List Value} {w1 w3:World} (h:KidI g B last p op n w0 ks css v l w) (hr:RuleAt w (fun b=>lo≤b∧b < w.heap.size) r cs) (hlo:p < lo) (hrow:∀ z,v.ownBlock=some z→z < lo)
  (hb1:Below w.heap.size w w1) (hgrow:w1.grownBy w3 v.ownBlock) (hat:v.ownBlock=some gg∨w.heap.size≤gg) (hown:w3.ownsRow p 38 6 (.slice (some ⟨gg,0,none⟩) (ks.length+1) cap) (ks.length+1) (css.flatten++cs)) :
  (w3.cell? ⟨p,5,none⟩=some v∧w3.frozen? ⟨p,5,none⟩=false)∧KidI g B last p op n w0 (ks++[r]) (css++[cs]) (.slice (some ⟨gg,0,none⟩) (ks.length+1) cap) l (w3.setCell ⟨p,5,none⟩ (.slice (some ⟨gg,0,none⟩) (ks.length+1) cap)):=by
 have hgp:=h.gp
 have hpl:=h.st.blk.lt
 have hz1:=hb1.size
 have hz3:=hgrow.size
 have hbk:Blk w3 p 38 #[.int .i64 op,.int .i64 0,.string ⟨#[]⟩,.int .i64 n,.int .i64 0,v]:=(h.st.blk.below hb1 hpl).grown hgrow h.far
 have hkeep:∀ b,b < w.heap.size→v.ownBlock≠some b→w3.heap[b]?=w.heap[b]?:=fun b hb hn=>(hgrow.block b (by omega) (fun e=>hn e.symm)).trans (hb1.block b hb)
 have hgo:v.ownBlock≠some g:=fun e=>by have:=own_ge h.own e;omega
 have hF:FrG g w0 w3:=by
  refine ⟨h.st.fr.bel.trans (Below.grown (hb1.mono (by have:=h.st.lt;have:=h.st.fr.bel.size;omega)) hgrow (by have:=h.st.lt;have:=h.st.fr.bel.size;omega) (fun z hz=>by have:=own_ge h.own hz;omega)),fun k hk hn=>?_⟩
  have:=h.st.fr.bel.size
  have:=h.st.old
  exact (hkeep k (by omega) (fun e=>by have:=own_ge h.own e;omega)).trans (h.st.fr.keep k hk hn)
 have hne:(Value.slice (some ⟨gg,0,none⟩) (ks.length+1) cap).ownBlock≠some p:=by
  intro e
  have e1:gg=p:=by simpa [Value.ownBlock] using e
  rcases hat with h1 | h1
  ·exact h.far (by rw [h1,e1])
  ·omega
 have hPS:PS g B last l w3:=by
  obtain ⟨⟨A,c,q1,q2,q3⟩,hB⟩:=h.st.ps
  have hbel:Below g w w3:=Below.grown (hb1.mono (by omega)) hgrow (by omega) (fun z hz=>by have:=own_ge h.own hz;omega)
  exact ⟨⟨A,c,(q1.below hb1 q1.lt).grown hgrow hgo,q2.below hbel hB,q3⟩,hB⟩
 have hng:∀ b,b < w.heap.size→v.ownBlock≠some b→b≠gg:=fun b h1 h2 e=>by
  rcases hat with h3 | h3
  ·exact h2 (by rw [e];exact h3)
  ·omega
 have hsz:(w3.setCell ⟨p,5,none⟩ (.slice (some ⟨gg,0,none⟩) (ks.length+1) cap)).heap.size=w3.heap.size:=by simp [World.setCell]
 have hS:∀ b,p < b→b < w.heap.size→v.ownBlock≠some b→(p < b∧b < (w3.setCell ⟨p,5,none⟩ (.slice (some ⟨gg,0,none⟩) (ks.length+1) cap)).heap.size∧(Value.slice (some ⟨gg,0,none⟩) (ks.length+1) cap).ownBlock≠some b)∧∀ i,(w3.setCell ⟨p,5,none⟩ (.slice (some ⟨gg,0,none⟩) (ks.length+1) cap)).cell? ⟨b,i,none⟩=w.cell? ⟨b,i,none⟩:=fun b h1 h2 h3=>
  ⟨⟨h1,by rw [hsz];omega,fun e=>hng b h2 h3 (by simpa [Value.ownBlock] using e.symm)⟩,fun i=>World.cell?_of_block (a:=⟨b,i,none⟩) ((Below.heap_setCell w3 ⟨p,5,none⟩ _ b (show b≠p by omega)).trans (hkeep b h2 h3))⟩
 refine ⟨⟨?_,?_⟩,?_⟩
 ·exact hbk.cell 5
 ·exact hbk.free 5
 ·refine ⟨?_,?_,by simp [h.len],?_,hne⟩
  ·exact (RSt.mk hPS hF hbk h.st.old h.st.lt).set 5 _
  ·rw[show (ks++[r]).length=ks.length+1 by simp,show (css++[cs]).flatten=css.flatten++cs by simp]
   obtain ⟨p1,p2⟩:=hown
   refine ⟨p1,?_⟩
   rcases p2 with p2 | ⟨z,c2,cur,hv,hg,hh,hr2⟩
   ·exact .inl p2
   ·have hz:z=gg:=by cases hv;rfl
    exact .inr ⟨z,c2,cur,hv,hg,(Below.heap_setCell w3 ⟨p,5,none⟩ _ z (fun e=>hne (by rw [show z=p from e] at hz;rw[hz];rfl))).trans hh,hr2⟩
  ·intro i r1 cs1 h1 h2
   rcases Nat.lt_or_ge i ks.length with hi | hi
   ·rw[List.getElem?_append_left hi] at h1
    rw[List.getElem?_append_left (by rw [h.len];exact hi)] at h2
    exact RuleAt.keep (fun b hb=>hS b hb.1 hb.2.1 hb.2.2) r1 cs1 (h.kid i r1 cs1 h1 h2)
   ·rw[List.getElem?_append_right hi] at h1
    rw[List.getElem?_append_right (by rw [h.len];exact hi)] at h2
    rw[h.len] at h2
    cases hd:i - ks.length with
    | succ m=>rw [hd] at h1;simp at h1
    | zero=>
     rw[hd] at h1 h2
     simp at h1 h2
     subst h1;subst h2
     exact RuleAt.keep (fun b hb=>hS b (by have:=hb.1;omega) hb.2 (fun e=>by have:=hrow b e;have:=hb.1;omega)) r cs hr
theorem flat_six:∀ {css:List (List Value)} (_:∀ cs∈css,cs.length=6) (i:Nat) (cs:List Value) (j:Nat) (x:Value),css[i]?=some cs→cs[j]?=some x→css.flatten[i*6+j]?=some x
 | [],_,i,cs,j,x,hi,_=>by simp at hi
 | c::css,h6,0,cs,j,x,hi,hj=>by
  obtain rfl:c=cs:=by simpa using hi
  rw[List.flatten_cons,Nat.zero_mul,Nat.zero_add,List.getElem?_append_left (List.getElem?_eq_some_iff.1 hj).1]
  exact hj
 | c::css,h6,i+1,cs,j,x,hi,hj=>by
  have h1:=h6 c (by simp)
  rw[List.flatten_cons,List.getElem?_append_right (by omega),h1,show (i+1)*6+j - 6=i*6+j by omega]
  exact flat_six (fun d hd=>h6 d (by simp [hd])) i cs j x (by simpa using hi) hj
theorem KidI.out (h:KidI g B last p op n w0 ks css v l w) (h200:ks.length≤200):RuleAt w (fun b=>p < b∧b < w.heap.size) (.mk op 0 [] n 0 ks) [intV op,intV 0,strV [],intV n,intV 0,v]:=by
 rw[RuleAt]
 have hown:=h.own
 obtain ⟨p1,p2⟩:=hown
 have h6:∀ cs∈css,cs.length=6:=fun cs hcs=>by
  obtain ⟨i,hi⟩:=List.getElem?_of_mem hcs
  have hl:=(List.getElem?_eq_some_iff.1 hi).1
  rw[h.len] at hl
  exact (h.kid i ks[i] cs (List.getElem?_eq_getElem hl) hi).length
 rcases p2 with ⟨hv,h0⟩ | ⟨z,cap,cur,hv,hg,hh,hc,hm,hsz,ht⟩
 ·have:ks = []:=List.length_eq_zero_iff.1 h0
  subst this
  exact ⟨none,0,by rw [hv];rfl,by simp,by simp,by rw [KidsAt];trivial⟩
 ·refine ⟨some ⟨z,0,none⟩,cap,by rw [hv],by simp,by omega,?_⟩
  have hzp:p≠z:=fun e=>h.far (by rw [hv,e];rfl)
  rw[kids_row]
  intro i x hi
  have hl:=(List.getElem?_eq_some_iff.1 hi).1
  obtain ⟨cs,hcs⟩:∃ cs,css[i]?=some cs:=⟨css[i]'(by rw [h.len];exact hl),List.getElem?_eq_getElem _⟩
  refine ⟨z,0,cs,rfl,⟨by omega,own_lt h.own (by rw [hv];rfl)⟩,RuleAt.keep (fun b hb=>⟨⟨hb.1,hb.2.1⟩,fun _=>rfl⟩) x cs (h.kid i x cs hi hcs),fun j y hj=>?_⟩
  have hf:=flat_six h6 i cs j y hcs hj
  rw[←ht] at hf
  rw[Nat.zero_add,cell_of_row w z _ cur _ (0,0) hh]
  have hlt:=(List.getElem?_eq_some_iff.1 hf).1
  rw[List.getElem?_take_of_lt (by simp at hlt;omega)] at hf
  simpa using hf
end
end Go.Proofs.YtjonaidancomgaaGreatDoor

namespace Go.Proofs.YtjonaidancomgaaGreatDoor
open Go.RowKit

inductive Item where
  | course (x:Sx.Course)
  | pair (x:Sx.Pair)
  | prog (x:Sx.Prog)
  | cls (x:Sx.Cls)
  | fee (x:Sx.Fee)
  | clause (x:Sx.Clause)
def ItemAt (w:World) (S:Nat→Prop):Item→List Value→Prop
  | .course x=>CourseAt w S x
  | .pair x=>PairAt x
  | .prog x=>ProgAt w S x
  | .cls x=>ClsAt x
  | .fee x=>FeeAt x
  | .clause x=>ClauseAt x
def itemsOf (c:Sx.Cat):List (List Item):=[c.courses.map .course,c.same.map .pair,c.progs.map .prog,c.classes.map .cls,c.fees.map .fee,c.honours.map .cls,c.clauses.map .clause]
def rowTy:Nat→TypeId
  | 0=>58
  | 1=>71
  | 2=>78
  | 3=>82
  | 4=>86
  | 5=>82
  | _=>90
def rowSz:Nat→Nat
  | 0=>16
  | 1=>4
  | 2=>7
  | 3=>4
  | 4=>2
  | 5=>4
  | _=>4
theorem ItemAt.keep {w w':World} {S S':Nat→Prop} (hS:∀ b,S b→S' b∧∀ i,w'.cell? ⟨b,i,none⟩=w.cell? ⟨b,i,none⟩) {x:Item} {cs:List Value} (h:ItemAt w S x cs):ItemAt w' S' x cs:=by
  cases x with
  | course x=>exact CourseAt.keep hS h
  | pair x=>exact h
  | prog x=>exact ProgAt.keep hS h
  | cls x=>exact h
  | fee x=>exact h
  | clause x=>exact h
def CatS (h:Nat) (vs:List Value) (w:World) (b:Nat):Prop:=h < b∧b < w.heap.size∧∀ u∈vs,u.ownBlock≠some b
structure FrH (g h : Nat) (w w' : World) : Prop where
  bel:Below g w w'
  keep:∀ k,k < w.heap.size→k≠g→k≠h→w'.heap[k]?=w.heap[k]?
theorem FrH.refl (g h:Nat) (w:World):FrH g h w w:=⟨Below.refl _ _,fun _ _ _ _=>rfl⟩
theorem FrH.trans {g h:Nat} {w w' w'':World} (h1:FrH g h w w') (h2:FrG g w' w''):FrH g h w w'':=⟨h1.bel.trans h2.bel,fun k hk hg hh=>(h2.keep k (by have:=h1.bel.size;omega) hg).trans (h1.keep k hk hg hh)⟩
theorem FrH.set {g h:Nat} {w w':World} (h1:FrH g h w w') (hg:g < h) (i:Nat) (u:Value):FrH g h w (w'.setCell ⟨h,i,none⟩ u):=
  ⟨h1.bel.setCell (show g≤h by omega) u,fun k hk hn hh=>(Below.heap_setCell w' ⟨h,i,none⟩ u k (show k≠h from hh)).trans (h1.keep k hk hn hh)⟩
structure CatI (g B : Nat) (last : Int) (h : Nat) (w0 : World) (its : List (List Item)) (vs : List Value) (css : List (List (List Value))) (l : List Lx.Tok) (w : World) : Prop where
  ps:PS g B last l w
  fr:FrH g h w0 w
  blk:Blk w h 30 vs.toArray
  old:g < h
  lt:h < w0.heap.size
  lenv:vs.length=7
  leni:its.length=7
  lenc:css.length=7
  own:∀ (i:Nat) v rs,vs[i]?=some v→css[i]?=some rs→w.ownsRow w0.heap.size (rowTy i) (rowSz i) v rs.length rs.flatten
  siz:∀ (i:Nat) rs,css[i]?=some rs→∀ cs∈rs,cs.length=rowSz i
  apart:∀ (i j:Nat) v u b,vs[i]?=some v→vs[j]?=some u→i≠j→v.ownBlock=some b→u.ownBlock≠some b
  far:∀ u∈vs,u.ownBlock≠some h
  len:∀ (i:Nat) (is:List Item) (rs:List (List Value)),its[i]?=some is→css[i]?=some rs→rs.length=is.length
  el:∀ (i:Nat) (is:List Item) rs (k:Nat) x cs,its[i]?=some is→css[i]?=some rs→is[k]?=some x→rs[k]?=some cs→ItemAt w (CatS h vs w) x cs
section
variable {g B : Nat} {last : Int} {h : Nat} {w0 w w' : World} {its : List (List Item)} {vs : List Value} {css : List (List (List Value))} {l l' : List Lx.Tok}
theorem CatI.gh (H:CatI g B last h w0 its vs css l w):g < h:=H.old
theorem CatI.get (H:CatI g B last h w0 its vs css l w) {i:Nat} (hi:i < 7):∃ v rs is,vs[i]?=some v∧css[i]?=some rs∧its[i]?=some is∧rs.length=is.length:=
  ⟨_,_,_,List.getElem?_eq_getElem (by rw [H.lenv];exact hi),List.getElem?_eq_getElem (by rw [H.lenc];exact hi),List.getElem?_eq_getElem (by rw [H.leni];exact hi),H.len i _ _ (List.getElem?_eq_getElem (by rw [H.leni];exact hi)) (List.getElem?_eq_getElem (by rw [H.lenc];exact hi))⟩
theorem CatI.ownGe (H:CatI g B last h w0 its vs css l w) {u:Value} (hu:u∈vs) {z:Nat} (hz:u.ownBlock=some z):w0.heap.size≤z∧z < w.heap.size:=by
  obtain ⟨i,hi⟩:=List.getElem?_of_mem hu
  have hl:=(List.getElem?_eq_some_iff.1 hi).1
  rw[H.lenv] at hl
  obtain ⟨v,rs,is,h1,h2,h3,h4⟩:=H.get hl
  rw[hi] at h1
  obtain rfl:u=v:=by simpa using h1
  have h5:=H.own i u rs hi h2
  exact ⟨own_ge h5 hz,own_lt h5 hz⟩
theorem CatI.ownOf (H:CatI g B last h w0 its vs css l w) {u:Value} (hu:u∈vs) {z:Nat} (hz:u.ownBlock=some z):h < z∧z < w.heap.size:=by
  have h1:=H.ownGe hu hz
  have h2:=H.lt
  exact ⟨by omega,h1.2⟩
theorem CatI.step (H:CatI g B last h w0 its vs css l w) (hf:FrG g w w') (hs:PS g B last l' w'):CatI g B last h w0 its vs css l' w':=
  ⟨hs,H.fr.trans hf,hf.blk H.blk (by have:=H.gh;omega),H.old,H.lt,H.lenv,H.leni,H.lenc,fun i v rs h1 h2=>own_frg hf (H.own i v rs h1 h2) (by have:=H.gh;have:=H.lt;omega),H.siz,H.apart,H.far,H.len,
   fun i is rs k x cs h1 h2 h3 h4=>ItemAt.keep (fun b hb=>⟨⟨hb.1,Nat.lt_of_lt_of_le hb.2.1 hf.bel.size,hb.2.2⟩,fun j=>hf.cell hb.2.1 (by have:=H.gh;have:=hb.1;omega) j⟩) (H.el i is rs k x cs h1 h2 h3 h4)⟩
theorem CatI.grow {i gg cap lo:Nat} {v:Value} {rs:List (List Value)} {is:List Item} {x:Item} {cs:List Value} {w1 w3:World} (H:CatI g B last h w0 its vs css l w) (hv:vs[i]?=some v) (hrs:css[i]?=some rs) (his:its[i]?=some is)
    (hx:ItemAt w (fun b=>lo≤b∧b < w.heap.size) x cs) (hcs:cs.length=rowSz i) (hlo:h < lo) (hrow:∀ u∈vs,∀ z,u.ownBlock=some z→z < lo)
    (hb1:Below w.heap.size w w1) (hgrow:w1.grownBy w3 v.ownBlock) (hat:v.ownBlock=some gg∨w.heap.size≤gg) (hown:w3.ownsRow w0.heap.size (rowTy i) (rowSz i) (.slice (some ⟨gg,0,none⟩) (rs.length+1) cap) (rs.length+1) (rs.flatten++cs)) :
    (w3.cell? ⟨h,i,none⟩=some v∧w3.frozen? ⟨h,i,none⟩=false)∧CatI g B last h w0 (its.set i (is++[x])) (vs.set i (.slice (some ⟨gg,0,none⟩) (rs.length+1) cap)) (css.set i (rs++[cs])) l (w3.setCell ⟨h,i,none⟩ (.slice (some ⟨gg,0,none⟩) (rs.length+1) cap)):=by
  have hgh:=H.gh
  have hhl:=H.blk.lt
  have hz1:=hb1.size
  have hz3:=hgrow.size
  have hvm:v∈vs:=List.mem_of_getElem? hv
  have hi7:i < 7:=by have:=(List.getElem?_eq_some_iff.1 hv).1;rw[H.lenv] at this;exact this
  have hfar:=H.far v hvm
  have hbk:Blk w3 h 30 vs.toArray:=(H.blk.below hb1 hhl).grown hgrow hfar
  have hkeep:∀ b,b < w.heap.size→v.ownBlock≠some b→w3.heap[b]?=w.heap[b]?:=fun b hb hn=>(hgrow.block b (by omega) (fun e=>hn e.symm)).trans (hb1.block b hb)
  have hgo:v.ownBlock≠some g:=fun e=>by have:=(H.ownOf hvm e).1;omega
  have hF:FrH g h w0 w3:=by
    refine ⟨H.fr.bel.trans (Below.grown (hb1.mono (by omega)) hgrow (by omega) (fun z hz=>by have:=(H.ownOf hvm hz).1;omega)),fun k hk hn hh=>?_⟩
    have:=H.fr.bel.size
    exact (hkeep k (by omega) (fun e=>by have:=(H.ownGe hvm e).1;omega)).trans (H.fr.keep k hk hn hh)
  have hgg:h < gg:=by
    rcases hat with h1 | h1
    · exact (H.ownOf hvm h1).1
    · omega
  have hne:(Value.slice (some ⟨gg,0,none⟩) (rs.length+1) cap).ownBlock≠some h:=by
    intro e
    have e1:gg=h:=by simpa [Value.ownBlock] using e
    omega
  have hPS:PS g B last l w3:=by
    obtain ⟨⟨A,c,q1,q2,q3⟩,hB⟩:=H.ps
    have hbel:Below g w w3:=Below.grown (hb1.mono (by omega)) hgrow (by omega) (fun z hz=>by have:=(H.ownOf hvm hz).1;omega)
    exact ⟨⟨A,c,(q1.below hb1 q1.lt).grown hgrow hgo,q2.below hbel hB,q3⟩,hB⟩
  have hng:∀ b,b < w.heap.size→v.ownBlock≠some b→b≠gg:=fun b h1 h2 e=>by
    rcases hat with h3 | h3
    · exact h2 (by rw [e];exact h3)
    · omega
  have hsz:(w3.setCell ⟨h,i,none⟩ (.slice (some ⟨gg,0,none⟩) (rs.length+1) cap)).heap.size=w3.heap.size:=by simp [World.setCell]
  have hmem:∀ u∈vs.set i (.slice (some ⟨gg,0,none⟩) (rs.length+1) cap),u=(.slice (some ⟨gg,0,none⟩) (rs.length+1) cap)∨u∈vs:=fun u hu=>by
    rcases List.mem_or_eq_of_mem_set hu with h1 | h1
    · exact .inr h1
    · exact .inl h1
  have hS:∀ b,h < b→b < w.heap.size→(∀ u∈vs,u.ownBlock≠some b)→CatS h (vs.set i (.slice (some ⟨gg,0,none⟩) (rs.length+1) cap)) (w3.setCell ⟨h,i,none⟩ (.slice (some ⟨gg,0,none⟩) (rs.length+1) cap)) b∧∀ j,(w3.setCell ⟨h,i,none⟩ (.slice (some ⟨gg,0,none⟩) (rs.length+1) cap)).cell? ⟨b,j,none⟩=w.cell? ⟨b,j,none⟩:=fun b h1 h2 h3=>by
    refine ⟨⟨h1,by rw [hsz];omega,fun u hu e=>?_⟩,fun j=>World.cell?_of_block (a:=⟨b,j,none⟩) ((Below.heap_setCell w3 ⟨h,i,none⟩ _ b (show b≠h by omega)).trans (hkeep b h2 (h3 v hvm)))⟩
    rcases hmem u hu with rfl | h4
    · exact hng b h2 (h3 v hvm) (by simpa [Value.ownBlock] using e.symm)
    · exact h3 u h4 e
  have hget:∀ (j:Nat) u,(vs.set i (.slice (some ⟨gg,0,none⟩) (rs.length+1) cap))[j]?=some u→(i=j∧u = .slice (some ⟨gg,0,none⟩) (rs.length+1) cap)∨(i≠j∧vs[j]?=some u):=fun j u hu=>by
    by_cases e:i=j
    · subst e
      rw[List.getElem?_set_self (by rw [H.lenv];exact hi7)] at hu
      exact .inl ⟨rfl,by simpa using hu.symm⟩
    · rw[List.getElem?_set_ne e] at hu
      exact .inr ⟨e,hu⟩
  have hgc:∀ (j:Nat) q,(css.set i (rs++[cs]))[j]?=some q→(i=j∧q=rs++[cs])∨(i≠j∧css[j]?=some q):=fun j q hq=>by
    by_cases e:i=j
    · subst e
      rw[List.getElem?_set_self (by rw [H.lenc];exact hi7)] at hq
      exact .inl ⟨rfl,by simpa using hq.symm⟩
    · rw[List.getElem?_set_ne e] at hq
      exact .inr ⟨e,hq⟩
  have hgi:∀ (j:Nat) q,(its.set i (is++[x]))[j]?=some q→(i=j∧q=is++[x])∨(i≠j∧its[j]?=some q):=fun j q hq=>by
    by_cases e:i=j
    · subst e
      rw[List.getElem?_set_self (by rw [H.leni];exact hi7)] at hq
      exact .inl ⟨rfl,by simpa using hq.symm⟩
    · rw[List.getElem?_set_ne e] at hq
      exact .inr ⟨e,hq⟩
  have hap:∀ (j:Nat) u,vs[j]?=some u→i≠j→u.ownBlock≠some gg:=fun j u hu hij e=>by
    rcases hat with h1 | h1
    · exact H.apart i j v u gg hv hu hij h1 e
    · have:=(H.ownOf (List.mem_of_getElem? hu) e).2
      omega
  refine ⟨⟨?_,?_⟩,?_⟩
  · rw[hbk.cell i];simpa using hv
  · exact hbk.free i
  refine ⟨hPS.setFar hgh i _,hF.set hgh i _,?_,H.old,H.lt,by simp [H.lenv],by simp [H.leni],by simp [H.lenc],?_,?_,?_,?_,?_,?_⟩
  · have:=hbk.set i (.slice (some ⟨gg,0,none⟩) (rs.length+1) cap)
    simpa using this
  · intro j u q hu hq
    rcases hget j u hu with ⟨rfl,rfl⟩ | ⟨e,hu⟩
    · rcases hgc i q hq with ⟨-,rfl⟩ | ⟨e2,-⟩
      · rw[show (rs++[cs]).length=rs.length+1 by simp,show (rs++[cs]).flatten=rs.flatten++cs by simp]
        exact ownsRow_setCell_other hown hne _
      · exact absurd rfl e2
    · rcases hgc j q hq with ⟨e2,-⟩ | ⟨-,hq⟩
      · exact absurd e2 e
      · have hum:=List.mem_of_getElem? hu
        have h0:=own_frg (FrG.below hb1 (by omega)) (H.own j u q hu hq) (by have:=H.lt;omega)
        refine ownsRow_setCell_other (h0.kept hgrow ?_) (H.far u hum) _
        cases hub:u.ownBlock with
        | none=>exact .inl rfl
        | some z=>exact .inr fun e3=>H.apart j i u v z hu hv (fun e4=>e e4.symm) hub e3.symm
  · intro j q hq
    rcases hgc j q hq with ⟨rfl,rfl⟩ | ⟨-,hq⟩
    · intro d hd
      rcases List.mem_append.1 hd with h1 | h1
      · exact H.siz i rs hrs d h1
      · obtain rfl:d=cs:=by simpa using h1
        exact hcs
    · exact H.siz j q hq
  · intro j k u u' b hu hu' hjk hb
    rcases hget j u hu with ⟨rfl,rfl⟩ | ⟨e,hu⟩
    · rcases hget k u' hu' with ⟨rfl,-⟩ | ⟨e2,hu'⟩
      · exact absurd rfl hjk
      · have:gg=b:=by simpa [Value.ownBlock] using hb
        subst this
        exact hap k u' hu' e2
    · rcases hget k u' hu' with ⟨rfl,rfl⟩ | ⟨e2,hu'⟩
      · intro e3
        have:gg=b:=by simpa [Value.ownBlock] using e3
        subst this
        exact hap j u hu e hb
      · exact H.apart j k u u' b hu hu' hjk hb
  · intro u hu
    rcases hmem u hu with rfl | h1
    · exact hne
    · exact H.far u h1
  · intro j q q' hq hq'
    rcases hgi j q hq with ⟨rfl,rfl⟩ | ⟨e,hq⟩
    · rcases hgc i q' hq' with ⟨-,rfl⟩ | ⟨e2,-⟩
      · simp[H.len i is rs his hrs]
      · exact absurd rfl e2
    · rcases hgc j q' hq' with ⟨e2,-⟩ | ⟨-,hq'⟩
      · exact absurd e2 e
      · exact H.len j q q' hq hq'
  · intro j q q' k y d hq hq' hy hd
    have hold:∀ (j:Nat) q q' (k:Nat) y d,its[j]?=some q→css[j]?=some q'→q[k]?=some y→q'[k]?=some d→ItemAt (w3.setCell ⟨h,i,none⟩ (.slice (some ⟨gg,0,none⟩) (rs.length+1) cap)) (CatS h (vs.set i (.slice (some ⟨gg,0,none⟩) (rs.length+1) cap)) (w3.setCell ⟨h,i,none⟩ (.slice (some ⟨gg,0,none⟩) (rs.length+1) cap))) y d:=fun j q q' k y d h1 h2 h3 h4=>
      ItemAt.keep (fun b hb=>hS b hb.1 hb.2.1 hb.2.2) (H.el j q q' k y d h1 h2 h3 h4)
    rcases hgi j q hq with ⟨rfl,rfl⟩ | ⟨e,hq⟩
    · rcases hgc i q' hq' with ⟨-,rfl⟩ | ⟨e2,-⟩
      · have hlen:=H.len i is rs his hrs
        rcases Nat.lt_or_ge k is.length with hk | hk
        · rw[List.getElem?_append_left hk] at hy
          rw[List.getElem?_append_left (by rw [hlen];exact hk)] at hd
          exact hold i is rs k y d his hrs hy hd
        · rw[List.getElem?_append_right hk] at hy
          rw[List.getElem?_append_right (by rw [hlen];exact hk),hlen] at hd
          cases hm:k - is.length with
          | succ m=>rw [hm] at hy;simp at hy
          | zero=>
            rw[hm] at hy hd
            simp at hy hd
            subst hy;subst hd
            exact ItemAt.keep (fun b hb=>hS b (by have:=hb.1;omega) hb.2 (fun u hu e=>by have:=hrow u hu b e;have:=hb.1;omega)) hx
      · exact absurd rfl e2
    · rcases hgc j q' hq' with ⟨e2,-⟩ | ⟨-,hq'⟩
      · exact absurd e2 e
      · exact hold j q q' k y d hq hq' hy hd
theorem flatm_at {m:Nat} : ∀ {css:List (List Value)} (_:∀ cs∈css,cs.length=m) (i:Nat) (cs:List Value) (j:Nat) (x:Value),css[i]?=some cs→cs[j]?=some x→css.flatten[i*m+j]?=some x
  | [],_,i,cs,j,x,hi,_=>by simp at hi
  | c::css,h6,0,cs,j,x,hi,hj=>by
    obtain rfl:c=cs:=by simpa using hi
    rw[List.flatten_cons,Nat.zero_mul,Nat.zero_add,List.getElem?_append_left (List.getElem?_eq_some_iff.1 hj).1]
    exact hj
  | c::css,h6,i+1,cs,j,x,hi,hj=>by
    have h1:=h6 c (by simp)
    rw[List.flatten_cons,List.getElem?_append_right (by rw [h1,Nat.add_mul];omega),h1,show (i+1)*m+j - m=i*m+j by rw [Nat.add_mul];omega]
    exact flatm_at (fun d hd=>h6 d (by simp [hd])) i cs j x (by simpa using hi) hj
theorem own_row {α:Type} {w:World} {base sz n:Nat} {e:TypeId} {v:Value} {rs:List (List Value)} {xs:List α} {S:Nat→Prop} {P:α→List Value→Prop} (ho:w.ownsRow base e sz v n rs.flatten) (hl:rs.length=xs.length) (hn:n=xs.length) (hsz:∀ cs∈rs,cs.length=sz)
    (hP:∀ (k:Nat) x cs,xs[k]?=some x→rs[k]?=some cs→P x cs) (hS:∀ z,v.ownBlock=some z→S z) (hm:xs.length≤140737488351232):∃ A c,v = .slice A xs.length c∧Row w S A sz P xs:=by
  rcases ho.2 with ⟨hv,h0⟩ | ⟨z,cap,cur,hv,hg,hh,hc,hm2,hs,ht⟩
  · have:xs = []:=List.length_eq_zero_iff.1 (by omega)
    subst this
    exact ⟨none,0,by rw [hv];rfl,Row.nil _ _ _ _ _⟩
  · refine ⟨some ⟨z,0,none⟩,cap,by rw [hv,hn],fun k x hk=>?_,hm⟩
    have hl2:=(List.getElem?_eq_some_iff.1 hk).1
    obtain ⟨cs,hcs⟩:∃ cs,rs[k]?=some cs:=⟨rs[k]'(by rw [hl];exact hl2),List.getElem?_eq_getElem _⟩
    refine ⟨z,0,cs,rfl,hS z (by rw [hv];rfl),hP k x cs hk hcs,fun j y hj=>?_⟩
    have hf:=flatm_at hsz k cs j y hcs hj
    rw[←ht] at hf
    rw[Nat.zero_add,cell_of_row w z _ cur _ (0,0) hh]
    have hlt:=(List.getElem?_eq_some_iff.1 hf).1
    rw[List.getElem?_take_of_lt (by simp at hlt;omega)] at hf
    simpa using hf
end
theorem CatI.start {g B:Nat} {last:Int} {h:Nat} {w0 w:World} {l:List Lx.Tok} (hps:PS g B last l w) (hfr:FrH g h w0 w) (hold:g < h) (hlt:h < w0.heap.size) (hblk:Blk w h 30 #[.slice none 0 0,.slice none 0 0,.slice none 0 0,.slice none 0 0,.slice none 0 0,.slice none 0 0,.slice none 0 0]) :
    CatI g B last h w0 (itemsOf Sx.Cat.none) [.slice none 0 0,.slice none 0 0,.slice none 0 0,.slice none 0 0,.slice none 0 0,.slice none 0 0,.slice none 0 0] [[],[],[],[],[],[],[]] l w:=by
  have hv:∀ (i:Nat) v,([.slice none 0 0,.slice none 0 0,.slice none 0 0,.slice none 0 0,.slice none 0 0,.slice none 0 0,.slice none 0 0]:List Value)[i]?=some v→v = .slice none 0 0:=fun i v hi=>by
    have:=List.mem_of_getElem? hi
    simpa using this
  have hr:∀ (i:Nat) rs,([[],[],[],[],[],[],[]]:List (List (List Value)))[i]?=some rs→rs = []:=fun i rs hi=>by
    have:=List.mem_of_getElem? hi
    simpa using this
  have hi:∀ (i:Nat) is,(itemsOf Sx.Cat.none)[i]?=some is→is = []:=fun i is hi=>by
    have:=List.mem_of_getElem? hi
    simpa[itemsOf,Sx.Cat.none] using this
  refine ⟨hps,hfr,hblk,hold,hlt,rfl,rfl,rfl,fun i v rs h1 h2=>?_,fun i rs h1=>?_,fun i j v u b h1 _ _ hb=>?_,fun u hu=>?_,fun i is rs h1 h2=>?_,fun i is rs k x cs h1 _ h3 _=>?_⟩
  · rw[hv i v h1,hr i rs h2];exact World.ownsRow_nil _ _ _ _
  · rw[hr i rs h1];simp
  · rw[hv i v h1] at hb;simp[Value.ownBlock] at hb
  · have:u = .slice none 0 0:=by simpa using hu
    rw[this];simp[Value.ownBlock]
  · rw[hi i is h1,hr i rs h2];rfl
  · rw[hi i is h1] at h3;simp at h3
theorem Row.ofMap {α:Type} {w:World} {S:Nat→Prop} {A:Option Addr} {sz:Nat} {P:Item→List Value→Prop} {Q:α→List Value→Prop} (f:α→Item) (hPQ:∀ x cs,P (f x) cs→Q x cs) {xs:List α} (h:Row w S A sz P (xs.map f)):Row w S A sz Q xs:=
  ⟨fun k x hk=>by
    obtain ⟨b,o,cs,h1,h2,h3,h4⟩:=h.at_ k (f x) (by simp [hk])
    exact ⟨b,o,cs,h1,h2,hPQ x cs h3,h4⟩,by have:=h.len;simpa using this⟩
theorem CatI.out {g B:Nat} {last:Int} {h:Nat} {w0 w:World} {c:Sx.Cat} {vs:List Value} {css:List (List (List Value))} {l:List Lx.Tok} (H:CatI g B last h w0 (itemsOf c) vs css l w) (hfew:∀ is∈itemsOf c,is.length≤140737488351232):CatAt w (fun b=>h < b∧b < w.heap.size) c vs:=by
  have hall:∀ i,i < 7→∃ v A n is,vs[i]?=some v∧(itemsOf c)[i]?=some is∧v = .slice A is.length n∧Row w (fun b=>h < b∧b < w.heap.size) A (rowSz i) (ItemAt w (fun b=>h < b∧b < w.heap.size)) is:=fun i hi=>by
    obtain ⟨v,rs,is,h1,h2,h3,h4⟩:=H.get hi
    obtain ⟨A,n,h5,h6⟩:=own_row (S:=fun b=>h < b∧b < w.heap.size) (P:=ItemAt w (fun b=>h < b∧b < w.heap.size)) (H.own i v rs h1 h2) h4 h4 (H.siz i rs h2) (fun k x cs hx hcs=>ItemAt.keep (fun b hb=>⟨⟨hb.1,hb.2.1⟩,fun _=>rfl⟩) (H.el i is rs k x cs h3 h2 hx hcs)) (fun z hz=>H.ownOf (List.mem_of_getElem? h1) hz) (hfew is (List.mem_of_getElem? h3))
    exact ⟨v,A,n,is,h1,h3,h5,h6⟩
  obtain ⟨v0,A0,n0,i0,a0,b0,c0,d0⟩:=hall 0 (by omega)
  obtain ⟨v1,A1,n1,i1,a1,b1,c1,d1⟩:=hall 1 (by omega)
  obtain ⟨v2,A2,n2,i2,a2,b2,c2,d2⟩:=hall 2 (by omega)
  obtain ⟨v3,A3,n3,i3,a3,b3,c3,d3⟩:=hall 3 (by omega)
  obtain ⟨v4,A4,n4,i4,a4,b4,c4,d4⟩:=hall 4 (by omega)
  obtain ⟨v5,A5,n5,i5,a5,b5,c5,d5⟩:=hall 5 (by omega)
  obtain ⟨v6,A6,n6,i6,a6,b6,c6,d6⟩:=hall 6 (by omega)
  simp only[itemsOf,List.getElem?_cons_zero,List.getElem?_cons_succ,Option.some.injEq] at b0 b1 b2 b3 b4 b5 b6
  subst b0;subst b1;subst b2;subst b3;subst b4;subst b5;subst b6
  simp only[List.length_map] at c0 c1 c2 c3 c4 c5 c6
  subst c0;subst c1;subst c2;subst c3;subst c4;subst c5;subst c6
  refine ⟨A0,n0,A1,n1,A2,n2,A3,n3,A4,n4,A5,n5,A6,n6,?_,d0.ofMap _ fun _ _ h=>h,d1.ofMap _ fun _ _ h=>h,d2.ofMap _ fun _ _ h=>h,d3.ofMap _ fun _ _ h=>h,d4.ofMap _ fun _ _ h=>h,d5.ofMap _ fun _ _ h=>h,d6.ofMap _ fun _ _ h=>h⟩
  have hl:=H.lenv
  obtain ⟨y0,y1,y2,y3,y4,y5,y6,hvs⟩:∃ y0 y1 y2 y3 y4 y5 y6,vs = [y0,y1,y2,y3,y4,y5,y6]:=by
    match vs,hl with
    | [y0,y1,y2,y3,y4,y5,y6],_=>exact ⟨_,_,_,_,_,_,_,rfl⟩
  rw[hvs] at a0 a1 a2 a3 a4 a5 a6 ⊢
  simp at a0 a1 a2 a3 a4 a5 a6
  subst a0;subst a1;subst a2;subst a3;subst a4;subst a5;subst a6
  rfl
theorem CatI.drew {g B:Nat} {last:Int} {h:Nat} {w0 w:World} {its:List (List Item)} {vs:List Value} {css:List (List (List Value))} {l:List Lx.Tok} (H:CatI g B last h w0 its vs css l w):CatI g B last h w0 its vs css l w.drew:=
  H.step (FrG.below (Below.refl _ _).drew H.ps.lt) (H.ps.next (Below.refl _ _).drew)
theorem CatI.step_append {P:Program} {g B:Nat} {last:Int} {h:Nat} {w0 w:World} {its:List (List Item)} {vs:List Value} {css:List (List (List Value))} {l:List Lx.Tok} {i lo:Nat} {v:Value} {rs:List (List Value)} {is:List Item} {x:Item} {cs:List Value} (H:CatI g B last h w0 its vs css l w)
    (hv:vs[i]?=some v) (hrs:css[i]?=some rs) (his:its[i]?=some is) (hx:ItemAt w (fun b=>lo≤b∧b < w.heap.size) x cs) (hcs:cs.length=rowSz i) (hlo:h < lo) (hrow:∀ u∈vs,∀ z,u.ownBlock=some z→z < lo) (hfew:rs.length≤1000000)
    {ops:Array Oper} {o:Oper} {a:Act} {K:Act→World→Prop} {Q:Exit→Act→World→Prop} {E:Prop} (hgd:o.guard=none) (s y:Operand) (t:TypeId)
    (ho:o.op = .call { callee:=.builtin .append,args:=#[s,y],argTypes:=#[t,t] }) (inf:TypeInfo) (z:Value) (bytes:Nat) (ht:P.underlying t=some (.slice (rowTy i))) (hi:P.info? (rowTy i)=some inf) (hz:inf.zero=some z)
    (hsize:inf.size=rowSz i) (hby:inf.bytes=bytes) (hzs:z.cells.size=rowSz i) (hbytes:bytes≤10000) (hs:a.eval s=v) (hy:a.eval y = .slice (some ⟨w.heap.size,0,none⟩) 1 1) (h1:∀ u∈cs,u.oneCell'=true)
    (hK:∀ gg cap w3,w3.cell? ⟨h,i,none⟩=some v→w3.frozen? ⟨h,i,none⟩=false→CatI g B last h w0 (its.set i (is++[x])) (vs.set i (.slice (some ⟨gg,0,none⟩) (rs.length+1) cap)) (css.set i (rs++[cs])) l (w3.setCell ⟨h,i,none⟩ (.slice (some ⟨gg,0,none⟩) (rs.length+1) cap))→K (a.put o.dst (.slice (some ⟨gg,0,none⟩) (rs.length+1) cap)) w3) :
    if Region.wanted o (yielded ops a.tmps)=true then Oper.wp P o a (w.alloc (.cells cs.toArray (rowTy i))) K Q else E:=by
  have hhl:=H.blk.lt
  have hpos:0 < rowSz i:=by
    unfold rowSz
    split <;> omega
  refine step_append_lies _ hgd s y t ho w0.heap.size (rowTy i) inf z (rowSz i) bytes ht hi hz hsize hby hzs hpos v rs.length rs.flatten hs ((H.own i v rs hv hrs).alloc _) ⟨w.heap.size,0,none⟩ 1 1 cs hy (by rw [hcs,Nat.one_mul]) (World.news_of_block (cs:=cs.toArray) (t:=rowTy i) (fr:=(0,0)) (heap_alloc_new w _)) h1 (by omega) (by unfold maxLen;omega) ?_ (by have:=H.fr.bel.size;simp;omega) (w.heap.size+1) (by simp) ?_
  · exact Nat.le_trans (Nat.mul_le_mul (show rs.length+1≤1000001 by omega) hbytes) (by omega)
  · intro gg cap w3 hown hgrow hat hlt
    have hG:=H.grow hv hrs his hx hcs hlo hrow ((Below.refl _ _).alloc (Nat.le_refl _) _) hgrow (hat.imp id (fun h=>by omega)) hown
    exact hK gg cap w3 hG.1.1 hG.1.2 hG.2
structure LSt (g B : Nat) (last : Int) (l : List Lx.Tok) (p : Nat) (t : TypeId) (cs : Array Value) (w0 w : World) : Prop where
  ps:PS g B last l w
  fr:FrG g w0 w
  blk:Blk w p t cs
  old:w0.heap.size≤p
  lt:g < w0.heap.size
section
variable {g B : Nat} {last : Int} {l l' : List Lx.Tok} {p : Nat} {t : TypeId} {cs : Array Value} {w0 w w' : World}
theorem LSt.step (h:LSt g B last l p t cs w0 w) (hf:FrG g w w') (hs:PS g B last l' w'):LSt g B last l' p t cs w0 w':=
  ⟨hs,h.fr.trans hf,hf.blk h.blk (by have:=h.old;have:=h.lt;omega),h.old,h.lt⟩
theorem LSt.set (h:LSt g B last l p t cs w0 w) (i:Nat) (u:Value):LSt g B last l p t (cs.setIfInBounds i u) w0 (w.setCell ⟨p,i,none⟩ u):=
  ⟨h.ps.setFar (by have:=h.old;have:=h.lt;omega) i u,h.fr.setFar h.lt h.old i u,h.blk.set i u,h.old,h.lt⟩
theorem LSt.alloc (h:LSt g B last l p t cs w0 w) (o:Obj):LSt g B last l p t cs w0 (w.alloc o):=
  ⟨h.ps.alloc o,h.fr.alloc h.lt o,h.blk.alloc o,h.old,h.lt⟩
theorem LSt.drew (h:LSt g B last l p t cs w0 w):LSt g B last l p t cs w0 w.drew:=
  ⟨h.ps.next (Below.refl _ _).drew,h.fr.trans (FrG.below (Below.refl _ _).drew (by have:=h.lt;have:=h.fr.bel.size;omega)),h.blk.drew,h.old,h.lt⟩
theorem LSt.far (h:LSt g B last l p t cs w0 w) {b:Nat} (hb:p≠b) (ho:w0.heap.size≤b) (i:Nat) (u:Value):LSt g B last l p t cs w0 (w.setCell ⟨b,i,none⟩ u):=
  ⟨h.ps.setFar (by have:=h.lt;omega) i u,h.fr.setFar h.lt ho i u,h.blk.far (p:=⟨b,i,none⟩) hb u,h.old,h.lt⟩
theorem LSt.new (h:LSt g B last l p t cs w0 w) (t':TypeId) (cs':Array Value):LSt g B last l w.heap.size t' cs' w0 (w.alloc (.cells cs' t')):=
  ⟨h.ps.alloc _,h.fr.alloc h.lt _,Blk.new w t' cs',h.fr.bel.size,h.lt⟩
theorem LSt.start (h:PS g B last l w) (t:TypeId) (cs:Array Value):LSt g B last l w.heap.size t cs w (w.alloc (.cells cs t)):=
  ⟨h.alloc _,(FrG.refl g w).alloc h.lt _,Blk.new w t cs,Nat.le_refl _,h.lt⟩
end
def DefPost (g B:Nat) (last:Int) (h:Nat) (w0:World) (r:Sx.R Sx.Cat) (e:Ending) (w':World):Prop:=
  match r with
  | .ok c l=>e = .returned (.tuple #[])∧∃ vs css,CatI g B last h w0 (itemsOf c) vs css l w'
  | .bad p x=>FailS p x e∧FrH g h w0 w'
theorem DefPost.of_bad {g B:Nat} {last:Int} {h:Nat} {w0 w':World} {r:Sx.R Sx.Cat} {p x:Int} (hr:r = .bad p x) (hf:FrH g h w0 w'):DefPost g B last h w0 r (.panicked [{ v:=.iface 141 (.agg #[.int .i64 p,.int .i64 x]),recovered:=false }]) w':=by
  rw[hr];exact ⟨rfl,hf⟩
theorem DefPost.of_ok {g B:Nat} {last:Int} {h:Nat} {w0 w':World} {r:Sx.R Sx.Cat} {c:Sx.Cat} {l:List Lx.Tok} {its:List (List Item)} {vs:List Value} {css:List (List (List Value))} (hr:r = .ok c l) (hi:itemsOf c=its) (H:CatI g B last h w0 its vs css l w'):DefPost g B last h w0 r (.returned (.tuple #[])) w':=by
  rw[hr];exact ⟨rfl,vs,css,by rw [hi];exact H⟩
def DefC (N:Nat) (f:Nat) (F:Int→Sx.Cat→List Lx.Tok→Sx.R Sx.Cat):Prop:=∀ (g B h:Nat) (l:List Lx.Tok) (last:Int) (w0 w:World) (c:Sx.Cat) (vs:List Value) (css:List (List (List Value))),CatI g B last h w0 (itemsOf c) vs css l w→EnvS N w→N≤g→(∀ is∈itemsOf c,is.length≤1000000)→l.length≤1000000→
  Calls Tryz.prog f #[.pointer (some ⟨g,0,none⟩),.pointer (some ⟨h,0,none⟩)] w (DefPost g B last h w0 (F last c l))
end Go.Proofs.YtjonaidancomgaaGreatDoor

namespace Go.Proofs.YtjonaidancomgaaGreatDoor
open Go.RowKit

theorem Sx.R.assoc2 {α β γ:Type} (r:Sx.R α) (f:α→List Lx.Tok→Sx.R β) (h:β→List Lx.Tok→Sx.R γ):(r.bind f).bind h=r.bind fun a s=>(f a s).bind h:=by cases r <;> rfl
theorem Tryz.infoPair:(Tryz.prog.info? 71).map (fun i=>(i.zero,i.size,i.bytes))=some (some (.agg #[.string ⟨#[]⟩,.string ⟨#[]⟩,.int .i64 0,.int .i64 0]),4,48):=by kernel_rfl

set_option maxRecDepth 20000 in
set_option maxHeartbeats 2000000 in
theorem sSame (N:Nat):DefC N 85 fun last c l=>(Sx.same last l).bind fun x l=>.ok { c with same:=c.same++[x] } l:=by
 intro g B h l last w0 w c vs css H he hN hfew hl
 obtain ⟨R,hR⟩:∃ R,R=(Sx.same last l).bind fun x l=>(.ok { c with same:=c.same++[x] } l:Sx.R Sx.Cat):=⟨_,rfl⟩
 show Calls _ _ _ _ (DefPost g B last h w0 ((Sx.same last l).bind fun x l=>(.ok { c with same:=c.same++[x] } l:Sx.R Sx.Cat)))
 rw[←hR]
 replace hR:R=(Sx.ref last l).bind fun a l=>(Sx.sign last 61 l).bind fun _ l=>(Sx.ref last l).bind fun b l=>(Sx.sign last 59 l).bind fun _ l=>.ok { c with same:=c.same++[⟨a.1,b.1,a.2,b.2⟩] } l:=by rw [hR];simp only[Sx.same,Sx.R.assoc2,Sx.ok_bind]
 have HR:=Lh hR
 have HC:=Lh H
 have hlt:=H.ps.lt
 have hgl:h < w.heap.size:=H.blk.lt
 have hgh:=H.gh
 have L:=Lh (LSt.start H.ps 71 #[.string ⟨#[]⟩,.string ⟨#[]⟩,.int .i64 0,.int .i64 0])
 obtain ⟨i0,hi0,hz0,hz1,hz2⟩:=info_parts Tryz.infoPair
 obtain ⟨v,rs,is,hv1,hrs1,his1,hrl⟩:=H.get (i:=1) (by omega)
 have hrf:rs.length≤1000000:=by rw [hrl];exact hfew is (List.mem_of_getElem? his1)
 have his2:is=c.same.map .pair:=by simpa [itemsOf] using his1.symm
 have hrow:=fun u (hu:u∈vs) z (hz:u.ownBlock=some z)=>(H.ownOf hu hz).2
 have HROW:=Lh hrow;have HI:=Lh (And.intro hv1 (And.intro hrs1 his1));have HIS:=Lh his2
 clear H hR hrow hv1 hrs1 his1 hrl hfew his2 he
 go_enter Tryz.func85,Tryz.ntmps85
 go_wp2_with fail
 refine (sRef g B l last _ L.out.ps).mono ?_
 intro e w1 he
 rcases he.split with ⟨p,x,hv,rfl,hf⟩ | ⟨a,l1,u,hv,rfl,hV,hs,hf⟩
 ·exact ⟨rfl,DefPost.of_bad (Sx.go_bad HR.out hv) (HC.out.fr.trans (L.out.fr.trans hf))⟩
 obtain ⟨hV,hal⟩:=hV
 unfold strV at hV
 subst hV
 replace HR:=Lh (Sx.go_ok HR.out hv)
 have L1:=L.out.step hf hs
 have q0:=L1.blk.cell 0;have qf0:=L1.blk.free 0;have q2:=L1.blk.cell 2;have qf2:=L1.blk.free 2
 simp at q0 q2
 have hp1:=L1.blk.lt
 have L2:Hid (LSt g B last l1 w.heap.size 71 #[.string (Lx.bs a.1),.string ⟨#[]⟩,.int .i64 a.2,.int .i64 0] w ((w1.setCell ⟨w.heap.size,0,none⟩ (.string (Lx.bs a.1))).setCell ⟨w.heap.size,2,none⟩ (.int .i64 a.2))):=Lh (by have:=(L1.set 0 (.string (Lx.bs a.1))).set 2 (.int .i64 a.2);simpa using this)
 have Hal:=Lh hal
 clear hv hs hf he L1 L hal
 go_wp2_with fail
 refine (sSign g B l1 last 61 _ L2.out.ps).mono ?_
 intro e w2 he
 rcases he.split with ⟨p,x,hv,rfl,hf⟩ | ⟨u,l2,u',hv,rfl,hV,hs,hf⟩
 ·exact ⟨rfl,DefPost.of_bad (Sx.go_bad HR.out hv) (HC.out.fr.trans (L2.out.fr.trans hf))⟩
 unfold vUnit at hV
 subst hV
 replace HR:=Lh (Sx.go_ok HR.out hv)
 have L3:=Lh (L2.out.step hf hs)
 clear hv hs hf he L2 q0 q2 qf0 qf2 hp1
 go_wp2_with fail
 refine (sRef g B l2 last _ L3.out.ps).mono ?_
 intro e w3 he
 rcases he.split with ⟨p,x,hv,rfl,hf⟩ | ⟨b,l3,u,hv,rfl,hV,hs,hf⟩
 ·exact ⟨rfl,DefPost.of_bad (Sx.go_bad HR.out hv) (HC.out.fr.trans (L3.out.fr.trans hf))⟩
 obtain ⟨hV,hbl⟩:=hV
 unfold strV at hV
 subst hV
 replace HR:=Lh (Sx.go_ok HR.out hv)
 have L4:=L3.out.step hf hs
 have q1:=L4.blk.cell 1;have qf1:=L4.blk.free 1;have q3:=L4.blk.cell 3;have qf3:=L4.blk.free 3
 simp at q1 q3
 have hp1:=L4.blk.lt
 have L5:Hid (LSt g B last l3 w.heap.size 71 #[.string (Lx.bs a.1),.string (Lx.bs b.1),.int .i64 a.2,.int .i64 b.2] w ((w3.setCell ⟨w.heap.size,1,none⟩ (.string (Lx.bs b.1))).setCell ⟨w.heap.size,3,none⟩ (.int .i64 b.2))):=Lh (by have:=(L4.set 1 (.string (Lx.bs b.1))).set 3 (.int .i64 b.2);simpa using this)
 have Hbl:=Lh hbl
 clear hv hs hf he L4 L3 hbl
 go_wp2_with fail
 refine (sSign g B l3 last 59 _ L5.out.ps).mono ?_
 intro e w4 he
 rcases he.split with ⟨p,x,hv,rfl,hf⟩ | ⟨u,l4,u',hv,rfl,hV,hs,hf⟩
 ·exact ⟨rfl,DefPost.of_bad (Sx.go_bad HR.out hv) (HC.out.fr.trans (L5.out.fr.trans hf))⟩
 unfold vUnit at hV
 subst hV
 replace HR:=Lh (Sx.go_ok HR.out hv)
 have L6:=L5.out.step hf hs
 have q0:=L6.blk.cell 0;have q1:=L6.blk.cell 1;have q2:=L6.blk.cell 2;have q3:=L6.blk.cell 3
 simp at q0 q1 q2 q3
 have hp4:=L6.blk.lt
 have C6:=HC.out.step L6.fr L6.ps
 have c1:w4.cell? ⟨h,1,none⟩=some v:=by rw [C6.blk.cell 1];simpa using HI.out.1
 have hh4:=C6.blk.lt
 have HC6:=Lh C6.drew
 clear hv hs hf he L5 L6 C6 HC
 go_wp2_with fail
 go_region_law (refine HC6.out.step_append (i:=1) (lo:=w.heap.size) (x:=.pair ⟨a.1,b.1,a.2,b.2⟩) (cs:=[.string (Lx.bs a.1),.string (Lx.bs b.1),.int .i64 a.2,.int .i64 b.2]) HI.out.1 HI.out.2.1 HI.out.2.2 ⟨rfl,Hal.out,Hbl.out⟩ rfl hgl HROW.out hrf rfl _ _ _ rfl i0 _ 48 Tryz.underlying24 hi0 hz0 hz1 hz2 rfl (by omega) rfl rfl (by simp [Value.oneCell']) ?_;intro gg cap w5 d1 df1 HP)
 all_goals
  go_end0
  exact DefPost.of_ok HR.out (by rw [HIS.out];simp[itemsOf]) HP
end Go.Proofs.YtjonaidancomgaaGreatDoor
