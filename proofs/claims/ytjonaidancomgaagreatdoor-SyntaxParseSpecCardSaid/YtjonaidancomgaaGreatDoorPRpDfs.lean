/- Parts of the proof, joined into one text: RpDfs, RpCat, RpDefB. -/
import Derived.Test.YtjonaidancomgaaGreatDoorPRpDefA
import Derived.Test.YtjonaidancomgaaGreatDoorPSxCata
import Derived.Test.YtjonaidancomgaaGreatDoorPSxKids

namespace Go.Proofs.YtjonaidancomgaaGreatDoor
namespace Sx
open Lx (Tok)
section
variable {α : Type} {last : Int} {s : R Unit} {g : Nat} {c : Cat}
theorem hit_cons {k:Int} {x:List UInt8} {l:List Tok} (h:hit k x l=true):∃ t r,l=t::r∧t.kind=k∧t.text=x:=by
 cases l with
 | nil=>cases h
 | cons t r=>
  have h':(t.kind == k && t.text == x)=true:=h
  rw[Bool.and_eq_true] at h'
  exact ⟨t,r,rfl,by simpa using h'.1,by simpa using h'.2⟩
theorem defs_word (x:List UInt8) (F:Int→List Tok→R α) (u:α→Cat) (hd:∀ l,define last x c l=some ((F last l).bind fun a l=>.ok (u a) l)) (h:s.hits 1 x=true) :
  go s (defs last (g+1) c)=go s fun l=>((word last x l).bind fun _ l=>F last l).bind fun a l=>defs last g (u a) l:=by
 obtain ⟨l,rfl,h1,h2⟩:=hits_need (last:=last) _ h
 have h3:word last x l = .ok () l.tail:=h2
 obtain ⟨t,r,rfl,hk,ht⟩:=hit_cons h1
 rw[goOk,goOk,h3,defs]
 simp only[hk,if_true,ht,hd,List.tail_cons]
 show ((F last r).bind _).bind _=(F last r).bind _
 cases F last r <;> rfl
theorem defs_left {x:List UInt8} {F:Int→List Tok→R α} (hF:Cuts F) (hs:∀ l,s = .ok () l→l.length≤g+1):∀ l,(go s fun l=>(word last x l).bind fun _ l=>F last l).void = .ok () l→l.length≤g:=fun l h=>by
 obtain ⟨a,ha⟩:=void_ok h
 obtain ⟨m,rfl,hm⟩:=go_of_ok ha
 have h1:=hs m rfl
 cases hw:word last x m with
 | bad p e=>rw [hw] at hm;cases hm
 | ok b r=>
  rw[hw] at hm
  have h2:=eats_need (last:=last) 1 x m b r hw
  have h3:=hF.shrinks (show F last r = .ok a l from hm)
  omega
theorem defs_no {t:Tok} {r:List Tok} (hs:s = .ok () (t::r)) (h0:s.hits 1 wCourse=false) (h1:s.hits 1 wSame=false) (h2:s.hits 1 wProgramme=false) (h3:s.hits 1 wClass=false) (h4:s.hits 1 wFee=false) (h5:s.hits 1 wHonour=false) (h6:s.hits 1 wWhen=false) :
  go s (defs last (g+1) c)=go (go s fun l=>fail last l 100) (defs last g c):=by
 subst hs
 have hn:∀ {x:List UInt8},(R.ok () (t::r)).hits 1 x=false→t.kind=1→t.text≠x:=fun {x} h hk e=>by
  have h':(t.kind == 1 && t.text == x)=false:=h
  rw[hk,e] at h'
  simp at h'
 rw[goOk,goOk,defs]
 by_cases hk:t.kind=1
 ·rw[if_pos hk]
  have hd:define last t.text c r=none:=by
   unfold define
   rw[if_neg (hn h0 hk),if_neg (hn h1 hk),if_neg (hn h2 hk),if_neg (hn h3 hk),if_neg (hn h5 hk),if_neg (hn h4 hk),if_neg (hn h6 hk)]
  rw[hd];rfl
 ·rw[if_neg hk];rfl
theorem def_course (l:List Tok):define last wCourse c l=some ((course last l).bind fun x l=>.ok { c with courses:=c.courses++[x] } l):=rfl
theorem def_same (l:List Tok):define last wSame c l=some ((same last l).bind fun x l=>.ok { c with same:=c.same++[x] } l):=rfl
theorem def_programme (l:List Tok):define last wProgramme c l=some ((programme last l).bind fun x l=>.ok { c with progs:=c.progs++[x] } l):=rfl
theorem def_class (l:List Tok):define last wClass c l=some ((standing last l).bind fun x l=>.ok { c with classes:=c.classes++[x] } l):=rfl
theorem def_honour (l:List Tok):define last wHonour c l=some ((standing last l).bind fun x l=>.ok { c with honours:=c.honours++[x] } l):=rfl
theorem def_fee (l:List Tok):define last wFee c l=some ((fee last l).bind fun x l=>.ok { c with fees:=c.fees++[x] } l):=rfl
theorem def_clause (l:List Tok):define last wWhen c l=some ((clause last l).bind fun x l=>.ok { c with clauses:=c.clauses++[x] } l):=rfl
theorem parse_bad {src:List UInt8} {T:List Tok} {p e:Int} (h:parse src=match (go (.ok () T) (catalogue last)).bind fun a l=>ended last a l with | .ok a _=>.ok a | .bad p e=>.bad p e) (hR:go (.ok () T) (catalogue last)=go s (defs last g c)) (hs:s = .bad p e):parse src = .bad p e:=by
 rw[h,hR,hs];rfl
theorem parse_ok {src:List UInt8} {T:List Tok} (h:parse src=match (go (.ok () T) (catalogue last)).bind fun a l=>ended last a l with | .ok a _=>.ok a | .bad p e=>.bad p e) (hR:go (.ok () T) (catalogue last)=go s (defs last g c)) (hs:s = .ok () []):parse src = .ok c:=by
 rw[h,hR,hs,goOk,defs_end];rfl
theorem parse_long {s:List UInt8} (h:65536 < s.length):parse s = .bad 0 2:=by unfold parse parseBy;rw[if_pos h]
theorem parse_err {s:List UInt8} {p:Nat} (h:¬ 65536 < s.length) (hl:Lx.lex s = .err p):parse s = .bad p 90:=by unfold parse parseBy;rw[if_neg h,hl]
theorem parse_lex {s:List UInt8} {l:List Tok} (h:¬ 65536 < s.length) (hl:Lx.lex s = .ok l):parse s=match (go (.ok () l) (catalogue s.length)).bind fun a l=>ended s.length a l with | .ok a _=>.ok a | .bad p e=>.bad p e:=by
 unfold parse parseBy;rw[if_neg h,hl];simp only[goOk];cases (catalogue s.length l).bind fun a l=>ended s.length a l <;> rfl
end
end Sx
end Go.Proofs.YtjonaidancomgaaGreatDoor

namespace Go.Proofs.YtjonaidancomgaaGreatDoor
open Go.RowKit

structure CatJ (g h : Nat) (w0 : World) (its : List (List Item)) (vs : List Value) (css : List (List (List Value))) (w : World) : Prop where
  fr:FrH g h w0 w
  blk:Blk w h 30 vs.toArray
  old:g < h
  lt:h < w0.heap.size
  lenv:vs.length=7
  leni:its.length=7
  lenc:css.length=7
  own:∀ (i:Nat) v rs,vs[i]?=some v→css[i]?=some rs→w.ownsRow w0.heap.size (rowTy i) (rowSz i) v rs.length rs.flatten
  siz:∀ (i:Nat) rs,css[i]?=some rs→∀ cs∈rs,cs.length=rowSz i
  apart:∀ (i j:Nat) v u b,vs[i]?=some v→vs[j]?=some u→i≠j→v.ownBlock=some b→u.ownBlock≠some b
  far:∀ u∈vs,u.ownBlock≠some h
  len:∀ (i:Nat) (is:List Item) (rs:List (List Value)),its[i]?=some is→css[i]?=some rs→rs.length=is.length
  el:∀ (i:Nat) (is:List Item) rs (k:Nat) x cs,its[i]?=some is→css[i]?=some rs→is[k]?=some x→rs[k]?=some cs→ItemAt w (CatS h vs w) x cs
section
variable {g h : Nat} {w0 w w' : World} {its : List (List Item)} {vs : List Value} {css : List (List (List Value))}
theorem CatJ.gh (H:CatJ g h w0 its vs css w):g < h:=H.old
theorem CatJ.get (H:CatJ g h w0 its vs css w) {i:Nat} (hi:i < 7):∃ v rs is,vs[i]?=some v∧css[i]?=some rs∧its[i]?=some is∧rs.length=is.length:=
  ⟨_,_,_,List.getElem?_eq_getElem (by rw [H.lenv];exact hi),List.getElem?_eq_getElem (by rw [H.lenc];exact hi),List.getElem?_eq_getElem (by rw [H.leni];exact hi),H.len i _ _ (List.getElem?_eq_getElem (by rw [H.leni];exact hi)) (List.getElem?_eq_getElem (by rw [H.lenc];exact hi))⟩
theorem CatJ.ownGe (H:CatJ g h w0 its vs css w) {u:Value} (hu:u∈vs) {z:Nat} (hz:u.ownBlock=some z):w0.heap.size≤z∧z < w.heap.size:=by
  obtain ⟨i,hi⟩:=List.getElem?_of_mem hu
  have hl:=(List.getElem?_eq_some_iff.1 hi).1
  rw[H.lenv] at hl
  obtain ⟨v,rs,is,h1,h2,h3,h4⟩:=H.get hl
  rw[hi] at h1
  obtain rfl:u=v:=by simpa using h1
  have h5:=H.own i u rs hi h2
  exact ⟨own_ge h5 hz,own_lt h5 hz⟩
theorem CatJ.ownOf (H:CatJ g h w0 its vs css w) {u:Value} (hu:u∈vs) {z:Nat} (hz:u.ownBlock=some z):h < z∧z < w.heap.size:=by
  have h1:=H.ownGe hu hz
  have h2:=H.lt
  exact ⟨by omega,h1.2⟩
theorem CatJ.step (H:CatJ g h w0 its vs css w) (hf:FrG g w w'):CatJ g h w0 its vs css w':=
  ⟨H.fr.trans hf,hf.blk H.blk (by have:=H.gh;omega),H.old,H.lt,H.lenv,H.leni,H.lenc,fun i v rs h1 h2=>own_frg hf (H.own i v rs h1 h2) (by have:=H.gh;have:=H.lt;omega),H.siz,H.apart,H.far,H.len,
   fun i is rs k x cs h1 h2 h3 h4=>ItemAt.keep (fun b hb=>⟨⟨hb.1,Nat.lt_of_lt_of_le hb.2.1 hf.bel.size,hb.2.2⟩,fun j=>hf.cell hb.2.1 (by have:=H.gh;have:=hb.1;omega) j⟩) (H.el i is rs k x cs h1 h2 h3 h4)⟩
theorem CatJ.grow {i gg cap lo:Nat} {v:Value} {rs:List (List Value)} {is:List Item} {x:Item} {cs:List Value} {w1 w3:World} (H:CatJ g h w0 its vs css w) (hv:vs[i]?=some v) (hrs:css[i]?=some rs) (his:its[i]?=some is)
    (hx:ItemAt w (fun b=>lo≤b∧b < w.heap.size) x cs) (hcs:cs.length=rowSz i) (hlo:h < lo) (hrow:∀ u∈vs,∀ z,u.ownBlock=some z→z < lo)
    (hb1:Below w.heap.size w w1) (hgrow:w1.grownBy w3 v.ownBlock) (hat:v.ownBlock=some gg∨w.heap.size≤gg) (hown:w3.ownsRow w0.heap.size (rowTy i) (rowSz i) (.slice (some ⟨gg,0,none⟩) (rs.length+1) cap) (rs.length+1) (rs.flatten++cs)) :
    (w3.cell? ⟨h,i,none⟩=some v∧w3.frozen? ⟨h,i,none⟩=false)∧CatJ g h w0 (its.set i (is++[x])) (vs.set i (.slice (some ⟨gg,0,none⟩) (rs.length+1) cap)) (css.set i (rs++[cs])) (w3.setCell ⟨h,i,none⟩ (.slice (some ⟨gg,0,none⟩) (rs.length+1) cap)):=by
  have hgh:=H.gh
  have hhl:=H.blk.lt
  have hz1:=hb1.size
  have hz3:=hgrow.size
  have hvm:v∈vs:=List.mem_of_getElem? hv
  have hi7:i < 7:=by have:=(List.getElem?_eq_some_iff.1 hv).1;rw[H.lenv] at this;exact this
  have hfar:=H.far v hvm
  have hbk:Blk w3 h 30 vs.toArray:=(H.blk.below hb1 hhl).grown hgrow hfar
  have hkeep:∀ b,b < w.heap.size→v.ownBlock≠some b→w3.heap[b]?=w.heap[b]?:=fun b hb hn=>(hgrow.block b (by omega) (fun e=>hn e.symm)).trans (hb1.block b hb)
  have hF:FrH g h w0 w3:=by
    refine ⟨H.fr.bel.trans (Below.grown (hb1.mono (by omega)) hgrow (by omega) (fun z hz=>by have:=(H.ownOf hvm hz).1;omega)),fun k hk hn hh=>?_⟩
    have:=H.fr.bel.size
    exact (hkeep k (by omega) (fun e=>by have:=(H.ownGe hvm e).1;omega)).trans (H.fr.keep k hk hn hh)
  have hgg:h < gg:=by
    rcases hat with h1 | h1
    · exact (H.ownOf hvm h1).1
    · omega
  have hne:(Value.slice (some ⟨gg,0,none⟩) (rs.length+1) cap).ownBlock≠some h:=by
    intro e
    have e1:gg=h:=by simpa [Value.ownBlock] using e
    omega
  have hng:∀ b,b < w.heap.size→v.ownBlock≠some b→b≠gg:=fun b h1 h2 e=>by
    rcases hat with h3 | h3
    · exact h2 (by rw [e];exact h3)
    · omega
  have hsz:(w3.setCell ⟨h,i,none⟩ (.slice (some ⟨gg,0,none⟩) (rs.length+1) cap)).heap.size=w3.heap.size:=by simp [World.setCell]
  have hmem:∀ u∈vs.set i (.slice (some ⟨gg,0,none⟩) (rs.length+1) cap),u=(.slice (some ⟨gg,0,none⟩) (rs.length+1) cap)∨u∈vs:=fun u hu=>by
    rcases List.mem_or_eq_of_mem_set hu with h1 | h1
    · exact .inr h1
    · exact .inl h1
  have hS:∀ b,h < b→b < w.heap.size→(∀ u∈vs,u.ownBlock≠some b)→CatS h (vs.set i (.slice (some ⟨gg,0,none⟩) (rs.length+1) cap)) (w3.setCell ⟨h,i,none⟩ (.slice (some ⟨gg,0,none⟩) (rs.length+1) cap)) b∧∀ j,(w3.setCell ⟨h,i,none⟩ (.slice (some ⟨gg,0,none⟩) (rs.length+1) cap)).cell? ⟨b,j,none⟩=w.cell? ⟨b,j,none⟩:=fun b h1 h2 h3=>by
    refine ⟨⟨h1,by rw [hsz];omega,fun u hu e=>?_⟩,fun j=>World.cell?_of_block (a:=⟨b,j,none⟩) ((Below.heap_setCell w3 ⟨h,i,none⟩ _ b (show b≠h by omega)).trans (hkeep b h2 (h3 v hvm)))⟩
    rcases hmem u hu with rfl | h4
    · exact hng b h2 (h3 v hvm) (by simpa [Value.ownBlock] using e.symm)
    · exact h3 u h4 e
  have hget:∀ (j:Nat) u,(vs.set i (.slice (some ⟨gg,0,none⟩) (rs.length+1) cap))[j]?=some u→(i=j∧u = .slice (some ⟨gg,0,none⟩) (rs.length+1) cap)∨(i≠j∧vs[j]?=some u):=fun j u hu=>by
    by_cases e:i=j
    · subst e
      rw[List.getElem?_set_self (by rw [H.lenv];exact hi7)] at hu
      exact .inl ⟨rfl,by simpa using hu.symm⟩
    · rw[List.getElem?_set_ne e] at hu
      exact .inr ⟨e,hu⟩
  have hgc:∀ (j:Nat) q,(css.set i (rs++[cs]))[j]?=some q→(i=j∧q=rs++[cs])∨(i≠j∧css[j]?=some q):=fun j q hq=>by
    by_cases e:i=j
    · subst e
      rw[List.getElem?_set_self (by rw [H.lenc];exact hi7)] at hq
      exact .inl ⟨rfl,by simpa using hq.symm⟩
    · rw[List.getElem?_set_ne e] at hq
      exact .inr ⟨e,hq⟩
  have hgi:∀ (j:Nat) q,(its.set i (is++[x]))[j]?=some q→(i=j∧q=is++[x])∨(i≠j∧its[j]?=some q):=fun j q hq=>by
    by_cases e:i=j
    · subst e
      rw[List.getElem?_set_self (by rw [H.leni];exact hi7)] at hq
      exact .inl ⟨rfl,by simpa using hq.symm⟩
    · rw[List.getElem?_set_ne e] at hq
      exact .inr ⟨e,hq⟩
  have hap:∀ (j:Nat) u,vs[j]?=some u→i≠j→u.ownBlock≠some gg:=fun j u hu hij e=>by
    rcases hat with h1 | h1
    · exact H.apart i j v u gg hv hu hij h1 e
    · have:=(H.ownOf (List.mem_of_getElem? hu) e).2
      omega
  refine ⟨⟨?_,?_⟩,?_⟩
  · rw[hbk.cell i];simpa using hv
  · exact hbk.free i
  refine ⟨hF.set hgh i _,?_,H.old,H.lt,by simp [H.lenv],by simp [H.leni],by simp [H.lenc],?_,?_,?_,?_,?_,?_⟩
  · have:=hbk.set i (.slice (some ⟨gg,0,none⟩) (rs.length+1) cap)
    simpa using this
  · intro j u q hu hq
    rcases hget j u hu with ⟨rfl,rfl⟩ | ⟨e,hu⟩
    · rcases hgc i q hq with ⟨-,rfl⟩ | ⟨e2,-⟩
      · rw[show (rs++[cs]).length=rs.length+1 by simp,show (rs++[cs]).flatten=rs.flatten++cs by simp]
        exact ownsRow_setCell_other hown hne _
      · exact absurd rfl e2
    · rcases hgc j q hq with ⟨e2,-⟩ | ⟨-,hq⟩
      · exact absurd e2 e
      · have hum:=List.mem_of_getElem? hu
        have h0:=own_frg (FrG.below hb1 (by omega)) (H.own j u q hu hq) (by have:=H.lt;omega)
        refine ownsRow_setCell_other (h0.kept hgrow ?_) (H.far u hum) _
        cases hub:u.ownBlock with
        | none=>exact .inl rfl
        | some z=>exact .inr fun e3=>H.apart j i u v z hu hv (fun e4=>e e4.symm) hub e3.symm
  · intro j q hq
    rcases hgc j q hq with ⟨rfl,rfl⟩ | ⟨-,hq⟩
    · intro d hd
      rcases List.mem_append.1 hd with h1 | h1
      · exact H.siz i rs hrs d h1
      · obtain rfl:d=cs:=by simpa using h1
        exact hcs
    · exact H.siz j q hq
  · intro j k u u' b hu hu' hjk hb
    rcases hget j u hu with ⟨rfl,rfl⟩ | ⟨e,hu⟩
    · rcases hget k u' hu' with ⟨rfl,-⟩ | ⟨e2,hu'⟩
      · exact absurd rfl hjk
      · have:gg=b:=by simpa [Value.ownBlock] using hb
        subst this
        exact hap k u' hu' e2
    · rcases hget k u' hu' with ⟨rfl,rfl⟩ | ⟨e2,hu'⟩
      · intro e3
        have:gg=b:=by simpa [Value.ownBlock] using e3
        subst this
        exact hap j u hu e hb
      · exact H.apart j k u u' b hu hu' hjk hb
  · intro u hu
    rcases hmem u hu with rfl | h1
    · exact hne
    · exact H.far u h1
  · intro j q q' hq hq'
    rcases hgi j q hq with ⟨rfl,rfl⟩ | ⟨e,hq⟩
    · rcases hgc i q' hq' with ⟨-,rfl⟩ | ⟨e2,-⟩
      · simp[H.len i is rs his hrs]
      · exact absurd rfl e2
    · rcases hgc j q' hq' with ⟨e2,-⟩ | ⟨-,hq'⟩
      · exact absurd e2 e
      · exact H.len j q q' hq hq'
  · intro j q q' k y d hq hq' hy hd
    have hold:∀ (j:Nat) q q' (k:Nat) y d,its[j]?=some q→css[j]?=some q'→q[k]?=some y→q'[k]?=some d→ItemAt (w3.setCell ⟨h,i,none⟩ (.slice (some ⟨gg,0,none⟩) (rs.length+1) cap)) (CatS h (vs.set i (.slice (some ⟨gg,0,none⟩) (rs.length+1) cap)) (w3.setCell ⟨h,i,none⟩ (.slice (some ⟨gg,0,none⟩) (rs.length+1) cap))) y d:=fun j q q' k y d h1 h2 h3 h4=>
      ItemAt.keep (fun b hb=>hS b hb.1 hb.2.1 hb.2.2) (H.el j q q' k y d h1 h2 h3 h4)
    rcases hgi j q hq with ⟨rfl,rfl⟩ | ⟨e,hq⟩
    · rcases hgc i q' hq' with ⟨-,rfl⟩ | ⟨e2,-⟩
      · have hlen:=H.len i is rs his hrs
        rcases Nat.lt_or_ge k is.length with hk | hk
        · rw[List.getElem?_append_left hk] at hy
          rw[List.getElem?_append_left (by rw [hlen];exact hk)] at hd
          exact hold i is rs k y d his hrs hy hd
        · rw[List.getElem?_append_right hk] at hy
          rw[List.getElem?_append_right (by rw [hlen];exact hk),hlen] at hd
          cases hm:k - is.length with
          | succ m=>rw [hm] at hy;simp at hy
          | zero=>
            rw[hm] at hy hd
            simp at hy hd
            subst hy;subst hd
            exact ItemAt.keep (fun b hb=>hS b (by have:=hb.1;omega) hb.2 (fun u hu e=>by have:=hrow u hu b e;have:=hb.1;omega)) hx
      · exact absurd rfl e2
    · rcases hgc j q' hq' with ⟨e2,-⟩ | ⟨-,hq'⟩
      · exact absurd e2 e
      · exact hold j q q' k y d hq hq' hy hd
end
theorem CatJ.start {g h:Nat} {w0 w:World} (hfr:FrH g h w0 w) (hold:g < h) (hlt:h < w0.heap.size) (hblk:Blk w h 30 #[.slice none 0 0,.slice none 0 0,.slice none 0 0,.slice none 0 0,.slice none 0 0,.slice none 0 0,.slice none 0 0]) :
    CatJ g h w0 (itemsOf Sx.Cat.none) [.slice none 0 0,.slice none 0 0,.slice none 0 0,.slice none 0 0,.slice none 0 0,.slice none 0 0,.slice none 0 0] [[],[],[],[],[],[],[]] w:=by
  have hv:∀ (i:Nat) v,([.slice none 0 0,.slice none 0 0,.slice none 0 0,.slice none 0 0,.slice none 0 0,.slice none 0 0,.slice none 0 0]:List Value)[i]?=some v→v = .slice none 0 0:=fun i v hi=>by
    have:=List.mem_of_getElem? hi
    simpa using this
  have hr:∀ (i:Nat) rs,([[],[],[],[],[],[],[]]:List (List (List Value)))[i]?=some rs→rs = []:=fun i rs hi=>by
    have:=List.mem_of_getElem? hi
    simpa using this
  have hi:∀ (i:Nat) is,(itemsOf Sx.Cat.none)[i]?=some is→is = []:=fun i is hi=>by
    have:=List.mem_of_getElem? hi
    simpa[itemsOf,Sx.Cat.none] using this
  refine ⟨hfr,hblk,hold,hlt,rfl,rfl,rfl,fun i v rs h1 h2=>?_,fun i rs h1=>?_,fun i j v u b h1 _ _ hb=>?_,fun u hu=>?_,fun i is rs h1 h2=>?_,fun i is rs k x cs h1 _ h3 _=>?_⟩
  · rw[hv i v h1,hr i rs h2];exact World.ownsRow_nil _ _ _ _
  · rw[hr i rs h1];simp
  · rw[hv i v h1] at hb;simp[Value.ownBlock] at hb
  · have:u = .slice none 0 0:=by simpa using hu
    rw[this];simp[Value.ownBlock]
  · rw[hi i is h1,hr i rs h2];rfl
  · rw[hi i is h1] at h3;simp at h3
theorem CatJ.out {g h:Nat} {w0 w:World} {c:Sx.Cat} {vs:List Value} {css:List (List (List Value))} (H:CatJ g h w0 (itemsOf c) vs css w) (hfew:∀ is∈itemsOf c,is.length≤140737488351232):CatAt w (fun b=>h < b∧b < w.heap.size) c vs:=by
  have hall:∀ i,i < 7→∃ v A n is,vs[i]?=some v∧(itemsOf c)[i]?=some is∧v = .slice A is.length n∧Row w (fun b=>h < b∧b < w.heap.size) A (rowSz i) (ItemAt w (fun b=>h < b∧b < w.heap.size)) is:=fun i hi=>by
    obtain ⟨v,rs,is,h1,h2,h3,h4⟩:=H.get hi
    obtain ⟨A,n,h5,h6⟩:=own_row (S:=fun b=>h < b∧b < w.heap.size) (P:=ItemAt w (fun b=>h < b∧b < w.heap.size)) (H.own i v rs h1 h2) h4 h4 (H.siz i rs h2) (fun k x cs hx hcs=>ItemAt.keep (fun b hb=>⟨⟨hb.1,hb.2.1⟩,fun _=>rfl⟩) (H.el i is rs k x cs h3 h2 hx hcs)) (fun z hz=>H.ownOf (List.mem_of_getElem? h1) hz) (hfew is (List.mem_of_getElem? h3))
    exact ⟨v,A,n,is,h1,h3,h5,h6⟩
  obtain ⟨v0,A0,n0,i0,a0,b0,c0,d0⟩:=hall 0 (by omega)
  obtain ⟨v1,A1,n1,i1,a1,b1,c1,d1⟩:=hall 1 (by omega)
  obtain ⟨v2,A2,n2,i2,a2,b2,c2,d2⟩:=hall 2 (by omega)
  obtain ⟨v3,A3,n3,i3,a3,b3,c3,d3⟩:=hall 3 (by omega)
  obtain ⟨v4,A4,n4,i4,a4,b4,c4,d4⟩:=hall 4 (by omega)
  obtain ⟨v5,A5,n5,i5,a5,b5,c5,d5⟩:=hall 5 (by omega)
  obtain ⟨v6,A6,n6,i6,a6,b6,c6,d6⟩:=hall 6 (by omega)
  simp only[itemsOf,List.getElem?_cons_zero,List.getElem?_cons_succ,Option.some.injEq] at b0 b1 b2 b3 b4 b5 b6
  subst b0;subst b1;subst b2;subst b3;subst b4;subst b5;subst b6
  simp only[List.length_map] at c0 c1 c2 c3 c4 c5 c6
  subst c0;subst c1;subst c2;subst c3;subst c4;subst c5;subst c6
  refine ⟨A0,n0,A1,n1,A2,n2,A3,n3,A4,n4,A5,n5,A6,n6,?_,d0.ofMap _ fun _ _ h=>h,d1.ofMap _ fun _ _ h=>h,d2.ofMap _ fun _ _ h=>h,d3.ofMap _ fun _ _ h=>h,d4.ofMap _ fun _ _ h=>h,d5.ofMap _ fun _ _ h=>h,d6.ofMap _ fun _ _ h=>h⟩
  have hl:=H.lenv
  obtain ⟨y0,y1,y2,y3,y4,y5,y6,hvs⟩:∃ y0 y1 y2 y3 y4 y5 y6,vs = [y0,y1,y2,y3,y4,y5,y6]:=by
    match vs,hl with
    | [y0,y1,y2,y3,y4,y5,y6],_=>exact ⟨_,_,_,_,_,_,_,rfl⟩
  rw[hvs] at a0 a1 a2 a3 a4 a5 a6 ⊢
  simp at a0 a1 a2 a3 a4 a5 a6
  subst a0;subst a1;subst a2;subst a3;subst a4;subst a5;subst a6
  rfl
end Go.Proofs.YtjonaidancomgaaGreatDoor

namespace Go.Proofs.YtjonaidancomgaaGreatDoor
open Go.RowKit

def vClauseB (_:World) (a:Sx.Clause) (vs:List Value):Prop:=∃ cs,vs = [.agg cs.toArray]∧ClauseAt a cs
set_option maxRecDepth 20000 in
set_option maxHeartbeats 2000000 in
theorem pKinds (w:World):Calls Tryz.prog 101 #[] w fun e w'=>e = .returned (.slice (some ⟨w.heap.size,0,none⟩) 5 5)∧Below w.heap.size w w'∧WordsB w' w.heap.size 0 Sx.kindWords:=by
 obtain ⟨W1,hW1⟩:∃ W1,W1=w.alloc (.cells #[.string ⟨#[97,100,109,105,116]⟩,.string ⟨#[99,108,97,115,115]⟩,.string ⟨#[102,101,101]⟩,.string ⟨#[104,111,110,111,117,114]⟩,.string ⟨#[100,101,103,114,101,101]⟩] 9):=⟨_,rfl⟩
 obtain ⟨HX,hb⟩:=bnw hW1
 have HB:=Lh hb
 have hwa:WordsB W1 w.heap.size 0 Sx.kindWords:=⟨HX.out.lt,fun i x hx=>by
  rw[Nat.zero_add,HX.out.cell]
  match i,hx with
  | 0,hx=>exact congrArg some (congrArg Value.string (congrArg Lx.bs (Option.some.inj hx)))
  | 1,hx=>exact congrArg some (congrArg Value.string (congrArg Lx.bs (Option.some.inj hx)))
  | 2,hx=>exact congrArg some (congrArg Value.string (congrArg Lx.bs (Option.some.inj hx)))
  | 3,hx=>exact congrArg some (congrArg Value.string (congrArg Lx.bs (Option.some.inj hx)))
  | 4,hx=>exact congrArg some (congrArg Value.string (congrArg Lx.bs (Option.some.inj hx)))
  | i+5,hx=>simp [Sx.kindWords] at hx⟩
 have HW:=Lh hwa
 clear HX hb hwa
 go_enter Tryz.func101,Tryz.ntmps101
 go_wp2_with fail
 rw[←hW1]
 go_ret
 exact ⟨rfl,HB.out,HW.out⟩
set_option maxRecDepth 20000 in
set_option maxHeartbeats 2000000 in
theorem pWhens (w:World):Calls Tryz.prog 102 #[] w fun e w'=>e = .returned (.slice (some ⟨w.heap.size,0,none⟩) 3 3)∧Below w.heap.size w w'∧WordsB w' w.heap.size 0 Sx.whenWords:=by
 obtain ⟨W1,hW1⟩:∃ W1,W1=w.alloc (.cells #[.string ⟨#[97,110,121]⟩,.string ⟨#[117,112]⟩,.string ⟨#[100,111,119,110]⟩] 9):=⟨_,rfl⟩
 obtain ⟨HX,hb⟩:=bnw hW1
 have HB:=Lh hb
 have hwa:WordsB W1 w.heap.size 0 Sx.whenWords:=⟨HX.out.lt,fun i x hx=>by
  rw[Nat.zero_add,HX.out.cell]
  match i,hx with
  | 0,hx=>exact congrArg some (congrArg Value.string (congrArg Lx.bs (Option.some.inj hx)))
  | 1,hx=>exact congrArg some (congrArg Value.string (congrArg Lx.bs (Option.some.inj hx)))
  | 2,hx=>exact congrArg some (congrArg Value.string (congrArg Lx.bs (Option.some.inj hx)))
  | i+3,hx=>simp [Sx.whenWords] at hx⟩
 have HW:=Lh hwa
 clear HX hb hwa
 go_enter Tryz.func102,Tryz.ntmps102
 go_wp2_with fail
 rw[←hW1]
 go_ret
 exact ⟨rfl,HB.out,HW.out⟩
set_option maxRecDepth 20000 in
set_option maxHeartbeats 2000000 in
theorem pActions (w:World):Calls Tryz.prog 103 #[] w fun e w'=>e = .returned (.slice (some ⟨w.heap.size,0,none⟩) 3 3)∧Below w.heap.size w w'∧WordsB w' w.heap.size 0 Sx.actionWords:=by
 obtain ⟨W1,hW1⟩:∃ W1,W1=w.alloc (.cells #[.string ⟨#[107,101,101,112]⟩,.string ⟨#[114,101,111,112,101,110]⟩,.string ⟨#[114,101,118,101,114,115,101]⟩] 9):=⟨_,rfl⟩
 obtain ⟨HX,hb⟩:=bnw hW1
 have HB:=Lh hb
 have hwa:WordsB W1 w.heap.size 0 Sx.actionWords:=⟨HX.out.lt,fun i x hx=>by
  rw[Nat.zero_add,HX.out.cell]
  match i,hx with
  | 0,hx=>exact congrArg some (congrArg Value.string (congrArg Lx.bs (Option.some.inj hx)))
  | 1,hx=>exact congrArg some (congrArg Value.string (congrArg Lx.bs (Option.some.inj hx)))
  | 2,hx=>exact congrArg some (congrArg Value.string (congrArg Lx.bs (Option.some.inj hx)))
  | i+3,hx=>simp [Sx.actionWords] at hx⟩
 have HW:=Lh hwa
 clear HX hb hwa
 go_enter Tryz.func103,Tryz.ntmps103
 go_wp2_with fail
 rw[←hW1]
 go_ret
 exact ⟨rfl,HB.out,HW.out⟩
set_option maxRecDepth 20000 in
set_option maxHeartbeats 16000000 in
theorem pClause (T:List Lx.Tok) (A:Option Addr) (c:Nat) (last:Int) (s:Sx.R Unit) (k e p:Int) (w:World) (hc:PCtx T A w) (hp:PAt T s k e p) :
  Calls Tryz.prog 37 #[pv A T.length c k last e p] w (PRead T A c last (vClauseB) (Sx.go s (fun l=>(Sx.word last Sx.wWhen l).bind fun _ l=>Sx.clause last l)) w):=by
 have HC:=Lh hc;have HP0:=Lh hp
 have hlen:=hc.toks.len
 obtain ⟨R,hR⟩:∃ R,R=Sx.go s (fun l=>(Sx.word last Sx.wWhen l).bind fun _ l=>Sx.clause last l):=⟨_,rfl⟩
 obtain ⟨n,hn⟩:∃ n,n=T.length:=⟨_,rfl⟩
 rw[←hR]
 unfold PRead
 have Hn:=Lh hn;have HR0:=Lh hR
 unfold pv
 rw[←hn] at hlen ⊢
 obtain ⟨W1,W2,W3,hW1,hW2,hW3,p1,p2,p3,hb,hsz⟩:=pbox6 w 90 #[.int .i64 0,.int .i64 0,.int .i64 0,.int .i64 0] (.slice A n c) (.int .i64 k) (.int .i64 last) (.int .i64 e) (.int .i64 p)
 have HB:=Lh hb;have HX_p:=Lh p1;have HX_a:=Lh p2;have HX_q:=Lh p3
 clear hc hp hn hb p1 p2 p3 hR
 go_enter Tryz.func37,Tryz.ntmps37
 go_upto_region 1 with fail
 rw[←hW1,←hW2,←hW3]
 clear hW1 hW2 hW3
 obtain ⟨c_p0,c_p1,c_p2,c_p3,c_p4,z_p⟩:=cells5 HX_p.out
 have HW:=Lh (fun w' h=>pWord T A c last ⟨#[119,104,101,110]⟩ s (k) (e) (p) w' h HP0.out)
 rw[show Sx.need last 1 (⟨#[119,104,101,110]⟩:ByteArray).data.toList=Sx.word last Sx.wWhen from rfl] at HW
 unfold PPost pv at HW
 rw[←Hn.out] at HW
 obtain ⟨s1,hs⟩:∃ s',s'=Sx.go s (Sx.word last Sx.wWhen):=⟨_,rfl⟩
 rw[←hs] at HW
 have HR1:=Lh (HR0.out.trans ((Sx.go_unit _ _ _).trans (by rw [←hs])))
 clear hs HR0
 go_wp2_with fail
 refine (HW.out _ (HC.out.next HB.out)).mono ?_
 rintro e' v1 ⟨k1,x1,p1,rfl,ha,hb⟩
 have HP1:=Lh ha
 clear ha HW
 clear c_p0 c_p1 c_p2 c_p3 c_p4 z_p
 have hgz:=hb.size
 replace HB:=bmb HB hb
 replace HX_p:=bmv HX_p hb
 replace HX_a:=bmv HX_a hb
 replace HX_q:=bmv HX_q hb
 clear hb
 have HCh:=Lh (fun b o w' h hw=>pChoice T A c last Sx.kindWords 5 b o 5 rfl (by decide) s1 (k1) (x1) (p1) w' h HP1.out hw)
 unfold PRead pv at HCh
 rw[←Hn.out] at HCh
 have HKs:=Lh (fun w'=>pKinds w')
 obtain ⟨s2,hs⟩:∃ s',s'=(Sx.go s1 (Sx.oneOf last Sx.kindWords)).void:=⟨_,rfl⟩
 go_wp2_with fail
 refine (HKs.out _).mono ?_
 rintro e' v2a ⟨rfl,hb,hwd⟩
 have HWd:=Lh hwd
 clear hwd
 have hgz:=hb.size
 replace HB:=bmb HB hb
 replace HX_p:=bmv HX_p hb
 replace HX_a:=bmv HX_a hb
 replace HX_q:=bmv HX_q hb
 clear hb
 go_wp2_with fail
 refine (HCh.out _ _ _ (HC.out.next HB.out) HWd.out).mono ?_
 rintro e' v2 ⟨ki,vs,k2,x2,p2,rfl,hv,hvs,ha,hb⟩
 obtain ⟨hvs,hv0,hv1⟩:=hvs
 unfold intV at hvs
 subst hvs
 simp only[List.cons_append,List.nil_append]
 rw[←hs] at ha
 have HP2:=Lh ha
 have HR2:=Lh (HR1.out.trans ((Sx.R.Val.step hv _).trans (by rw [←hs])))
 clear hs ha hv HCh HKs HWd HR1
 have hgz:=hb.size
 replace HB:=bmb HB hb
 replace HX_p:=bmv HX_p hb
 replace HX_a:=bmv HX_a hb
 replace HX_q:=bmv HX_q hb
 clear hb
 obtain ⟨c_p0,c_p1,c_p2,c_p3,c_p4,z_p⟩:=cells5 HX_p.out
 obtain ⟨f_p0,f_p1,f_p2,f_p3,f_p4⟩:=frees5 HX_p.out
 obtain ⟨M2,hM2,hxn,hfar,hbn⟩:=pstoreB HX_p.out (.slice A n c) (.int .i64 k2) (.int .i64 last) (.int .i64 x2) (.int .i64 p2)
 replace HB:=Lh (hbn w.heap.size w HB.out (by omega))
 replace HX_a:=bfr hfar.1 HX_a (by omega)
 replace HX_q:=bfr hfar.1 HX_q (by omega)
 replace HX_p:=Lh hxn
 have hsz_M2:=hfar.2
 clear hxn hfar hbn
 go_upto_region 2 with fail
 rw[←hM2]
 clear hM2
 clear c_p0 c_p1 c_p2 c_p3 c_p4 z_p f_p0 f_p1 f_p2 f_p3 f_p4
 have HCh:=Lh (fun b o w' h hw=>pChoice T A c last Sx.whenWords 3 b o 3 rfl (by decide) s2 (k2) (x2) (p2) w' h HP2.out hw)
 unfold PRead pv at HCh
 rw[←Hn.out] at HCh
 have HKs:=Lh (fun w'=>pWhens w')
 obtain ⟨s3,hs⟩:∃ s',s'=(Sx.go s2 (Sx.oneOf last Sx.whenWords)).void:=⟨_,rfl⟩
 obtain ⟨c_p0,c_p1,c_p2,c_p3,c_p4,z_p⟩:=cells5 HX_p.out
 go_cut [5] from 15 to 20 (fun vv wx=>∃ (wi k3 x3 p3:Int),vv = .int .i64 wi∧Hid (PAt T s3 k3 x3 p3)∧Hid (Sx.R.Val (Sx.go s2 (Sx.oneOf last Sx.whenWords)) wi)∧Hid (0≤wi∧wi≤100)∧Hid (Below w.heap.size w wx)∧Hid (Blk wx w.heap.size 64 #[.slice A n c,.int .i64 k3,.int .i64 last,.int .i64 x3,.int .i64 p3])∧Hid (Blk wx (w.heap.size+1) 90 #[.int .i64 0,.int .i64 0,.int .i64 0,.int .i64 0])∧Hid (Blk wx (w.heap.size+1+1) 64 #[.slice none 0 0,.int .i64 0,.int .i64 0,.int .i64 0,.int .i64 0]))
 case first=>
  go_region_law (first | (go_simp;go_at_call 100;refine (HCh.out _ _ _ (HC.out.next (bmb HB HBa.out).out) HWd.out).mono ?_;rintro e2 vb ⟨wi,vs,k3,x3,p3,rfl,hv,hvs,ha,hb6⟩;have hb:=HBa.out.trans (hb6.mono HBa.out.size);have HBb:=Lh hb;have HAb:=Lh ha;have HVb:=Lh hv;obtain ⟨hvs,hv0,hv1⟩:=hvs;unfold intV at hvs;subst hvs;have HVi:=Lh (And.intro hv0 hv1);clear hv0 hv1;obtain ⟨h_0,h_1,h_2,h_3,h_4,h_z⟩:=cells5 (bmv HX_p hb).out;obtain ⟨g_0,g_1,g_2,g_3,g_4⟩:=frees5 (bmv HX_p hb).out;clear ha hv hb6 hb) | (go_simp;go_at_call 102;refine (HKs.out _).mono ?_;rintro e1 va ⟨rfl,hb5,hwd⟩;have hb:Below M2.heap.size M2 va:=Below.trans (Below.refl _ _).drew hb5;have HWd:=Lh (show WordsB va v2.heap.size 0 Sx.whenWords from hsz_M2 ▸ (show WordsB va M2.heap.size 0 Sx.whenWords from hwd));have HBa:=Lh hb;obtain ⟨y_0,y_1,y_2,y_3,y_4,y_z⟩:=cells5 (bmv HX_p hb).out;clear hb5 hwd hb))
  all_goals (try go_wp2_with fail)
  all_goals (
   obtain ⟨W8,hW8,hxn,hfar,hbn⟩:=pstoreB (bmv HX_p HBb.out).out (.slice A n c) (.int .i64 k3) (.int .i64 last) (.int .i64 x3) (.int .i64 p3)
   rw[←hW8]
   clear hW8
   go_wp2_with fail
   go_meet
   rw[←hs] at HAb
   exact ⟨wi,k3,x3,p3,rfl,HAb,HVb,HVi,Lh (hbn w.heap.size w (bmb HB HBb.out).out (Nat.le_refl _)),Lh hxn,bfr hfar.1 (bmv HX_a HBb.out) (by omega),bfr hfar.1 (bmv HX_q HBb.out) (by omega)⟩)
 case rest=>
  clear HB HX_p HX_a HX_q c_p0 c_p1 c_p2 c_p3 c_p4 z_p
  obtain ⟨wi,k3,x3,p3,rfl,HP3,HVb,HVi,HB,HX_p,HX_a,HX_q⟩:=hcut
  obtain ⟨hb_wi0,hb_wi1⟩:=HVi.out
  clear HVi
  have HR3:=Lh (HR2.out.trans ((Sx.R.Val.step HVb.out _).trans (by rw [←hs])))
  clear hs HVb HCh HKs HR2
  have hgz:=HB.out.size
  have hqz:=HX_q.out.lt
  go_upto_region 3 with fail
  rename World=>wd
  have HCh:=Lh (fun b o w' h hw=>pChoice T A c last Sx.actionWords 3 b o 3 rfl (by decide) s3 (k3) (x3) (p3) w' h HP3.out hw)
  unfold PRead pv at HCh
  rw[←Hn.out] at HCh
  have HKs:=Lh (fun w'=>pActions w')
  obtain ⟨s4,hs⟩:∃ s',s'=(Sx.go s3 (Sx.oneOf last Sx.actionWords)).void:=⟨_,rfl⟩
  obtain ⟨c_p0,c_p1,c_p2,c_p3,c_p4,z_p⟩:=cells5 HX_p.out
  go_cut [6] from 21 to 26 (fun vv wx=>∃ (ai k4 x4 p4:Int),vv = .int .i64 ai∧Hid (PAt T s4 k4 x4 p4)∧Hid (Sx.R.Val (Sx.go s3 (Sx.oneOf last Sx.actionWords)) ai)∧Hid (0≤ai∧ai≤100)∧Hid (Below w.heap.size w wx)∧Hid (Blk wx w.heap.size 64 #[.slice A n c,.int .i64 k4,.int .i64 last,.int .i64 x4,.int .i64 p4])∧Hid (Blk wx (w.heap.size+1) 90 #[.int .i64 0,.int .i64 0,.int .i64 0,.int .i64 0])∧Hid (Blk wx (w.heap.size+1+1) 64 #[.slice none 0 0,.int .i64 0,.int .i64 0,.int .i64 0,.int .i64 0]))
  case first=>
   go_region_law (first | (go_simp;go_at_call 100;refine (HCh.out _ _ _ (HC.out.next (bmb HB HBa.out).out) HWd.out).mono ?_;rintro e2 vb ⟨ai,vs,k4,x4,p4,rfl,hv,hvs,ha,hb6⟩;have hb:=HBa.out.trans (hb6.mono HBa.out.size);have HBb:=Lh hb;have HAb:=Lh ha;have HVb:=Lh hv;obtain ⟨hvs,hv0,hv1⟩:=hvs;unfold intV at hvs;subst hvs;have HVi:=Lh (And.intro hv0 hv1);clear hv0 hv1;obtain ⟨h_0,h_1,h_2,h_3,h_4,h_z⟩:=cells5 (bmv HX_p hb).out;obtain ⟨g_0,g_1,g_2,g_3,g_4⟩:=frees5 (bmv HX_p hb).out;clear ha hv hb6 hb) | (go_simp;go_at_call 103;refine (HKs.out _).mono ?_;rintro e1 va ⟨rfl,hb5,hwd⟩;have hb:Below wd.heap.size wd va:=Below.trans (Below.refl _ _).drew hb5;have HWd:=Lh (show WordsB va wd.heap.size 0 Sx.actionWords from hwd);have HBa:=Lh hb;obtain ⟨y_0,y_1,y_2,y_3,y_4,y_z⟩:=cells5 (bmv HX_p hb).out;clear hb5 hwd hb))
   all_goals (try go_wp2_with fail)
   all_goals (
    obtain ⟨W8,hW8,hxn,hfar,hbn⟩:=pstoreB (bmv HX_p HBb.out).out (.slice A n c) (.int .i64 k4) (.int .i64 last) (.int .i64 x4) (.int .i64 p4)
    rw[←hW8]
    clear hW8
    go_wp2_with fail
    go_meet
    rw[←hs] at HAb
    exact ⟨ai,k4,x4,p4,rfl,HAb,HVb,HVi,Lh (hbn w.heap.size w (bmb HB HBb.out).out (Nat.le_refl _)),Lh hxn,bfr hfar.1 (bmv HX_a HBb.out) (by omega),bfr hfar.1 (bmv HX_q HBb.out) (by omega)⟩)
  case rest=>
   clear HB HX_p HX_a HX_q c_p0 c_p1 c_p2 c_p3 c_p4 z_p
   obtain ⟨ai,k4,x4,p4,rfl,HP4,HVb,HVi,HB,HX_p,HX_a,HX_q⟩:=hcut
   obtain ⟨hb_ai0,hb_ai1⟩:=HVi.out
   clear HVi
   have HR4:=Lh (HR3.out.trans ((Sx.R.Val.step HVb.out _).trans (by rw [←hs])))
   clear hs HVb HCh HKs HR3
   have hgz:=HB.out.size
   have hqz:=HX_q.out.lt
   go_upto_region 4 with fail
   obtain ⟨c_p0,c_p1,c_p2,c_p3,c_p4,z_p⟩:=cells5 HX_p.out
   have HW:=Lh (fun w' h=>pWord T A c last ⟨#[117,110,116,105,108]⟩ s4 (k4) (x4) (p4) w' h HP4.out)
   rw[show Sx.need last 1 (⟨#[117,110,116,105,108]⟩:ByteArray).data.toList=Sx.word last Sx.wUntil from rfl] at HW
   unfold PPost pv at HW
   rw[←Hn.out] at HW
   obtain ⟨s5,hs⟩:∃ s',s'=Sx.go s4 (Sx.word last Sx.wUntil):=⟨_,rfl⟩
   rw[←hs] at HW
   have HR5:=Lh (HR4.out.trans ((Sx.go_unit _ _ _).trans (by rw [←hs])))
   clear hs HR4
   go_wp2_with fail
   refine (HW.out _ (HC.out.next HB.out)).mono ?_
   rintro e' v5 ⟨k5,x5,p5,rfl,ha,hb⟩
   have HP5:=Lh ha
   clear ha HW
   clear c_p0 c_p1 c_p2 c_p3 c_p4 z_p
   have hgz:=hb.size
   replace HB:=bmb HB hb
   replace HX_p:=bmv HX_p hb
   replace HX_a:=bmv HX_a hb
   replace HX_q:=bmv HX_q hb
   clear hb
   have HW:=Lh (fun w' h=>pNumber T A c last 0 12 s5 (k5) (x5) (p5) w' h HP5.out)
   unfold PRead pv at HW
   rw[←Hn.out] at HW
   obtain ⟨s6,hs⟩:∃ s',s'=(Sx.go s5 (Sx.number last 0 12)).void:=⟨_,rfl⟩
   go_wp2_with fail
   refine (HW.out _ (HC.out.next HB.out)).mono ?_
   rintro e' v6 ⟨ut,vs,k6,x6,p6,rfl,hv,hvs,ha,hb⟩
   rw[←hs] at ha
   have HP6:=Lh ha
   have HR6:=Lh (HR5.out.trans ((Sx.R.Val.step hv _).trans (by rw [←hs])))
   unfold vInts intV at hvs
   subst hvs
   simp only[List.cons_append,List.nil_append]
   clear hs ha hv HW HR5
   have hgz:=hb.size
   replace HB:=bmb HB hb
   replace HX_p:=bmv HX_p hb
   replace HX_a:=bmv HX_a hb
   replace HX_q:=bmv HX_q hb
   clear hb
   obtain ⟨c_p0,c_p1,c_p2,c_p3,c_p4,z_p⟩:=cells5 HX_p.out
   obtain ⟨f_p0,f_p1,f_p2,f_p3,f_p4⟩:=frees5 HX_p.out
   obtain ⟨Q1,hQ1,hxn,hfar,hbn⟩:=pstoreB HX_p.out (.slice A n c) (.int .i64 k6) (.int .i64 last) (.int .i64 x6) (.int .i64 p6)
   replace HB:=Lh (hbn w.heap.size w HB.out (by omega))
   replace HX_a:=bfr hfar.1 HX_a (by omega)
   replace HX_q:=bfr hfar.1 HX_q (by omega)
   replace HX_p:=Lh hxn
   have hsz_Q1:=hfar.2
   clear hxn hfar hbn
   go_upto_region 5 with fail
   rw[←hQ1]
   clear hQ1
   clear c_p0 c_p1 c_p2 c_p3 c_p4 z_p f_p0 f_p1 f_p2 f_p3 f_p4
   obtain ⟨c_p0,c_p1,c_p2,c_p3,c_p4,z_p⟩:=cells5 HX_p.out
   have HSg:=Lh (fun w' h=>pSg T A c last 59 s6 (k6) (x6) (p6) w' h HP6.out)
   unfold PPost pv at HSg
   rw[←Hn.out] at HSg
   have HE:Hid (R=Sx.go (Sx.go s6 (Sx.sign last 59)) fun l=>.ok ⟨ki+1,wi,ai+1,ut⟩ l):=Lh (HR6.out.trans (Sx.go_unit _ _ _))
   have HV:Hid (R.Val ⟨ki+1,wi,ai+1,ut⟩):=Lh (by rw [HE.out];exact .done _ _)
   have HVd:Hid (R.void=Sx.go s6 (Sx.sign last 59)):=Lh (by rw [HE.out,Sx.void_done])
   rw[←HVd.out] at HSg
   clear HE HVd HR6
   go_wp2_with fail
   refine (HSg.out _ (HC.out.next HB.out)).mono ?_
   rintro e' v9 ⟨k9,x9,p9,rfl,ha,hb⟩
   have HA:=Lh ha
   clear ha HSg
   clear c_p0 c_p1 c_p2 c_p3 c_p4 z_p
   have hgz:=hb.size
   replace HB:=bmb HB hb
   replace HX_p:=bmv HX_p hb
   replace HX_a:=bmv HX_a hb
   replace HX_q:=bmv HX_q hb
   clear hb
   obtain ⟨c_a0,c_a1,c_a2,c_a3,z_a⟩:=cells4 HX_a.out
   obtain ⟨f_a0,f_a1,f_a2,f_a3⟩:=frees4 HX_a.out
   obtain ⟨c_q0,c_q1,c_q2,c_q3,c_q4,z_q⟩:=cells5 HX_q.out
   obtain ⟨f_q0,f_q1,f_q2,f_q3,f_q4⟩:=frees5 HX_q.out
   go_wp2_with fail
   obtain ⟨W8,hW8,hxn,hfar,hbn⟩:=pst4 HX_a.out (.int .i64 (1+ki)) (.int .i64 wi) (.int .i64 (1+ai)) (.int .i64 ut)
   have HX8:=bfr hfar.1 HX_q (by omega)
   obtain ⟨W9,hW9,hxn9,hfar9,hbn9⟩:=pstoreB HX8.out (.slice A n c) (.int .i64 k9) (.int .i64 last) (.int .i64 x9) (.int .i64 p9)
   have hxa9:=bfr hfar9.1 (Lh hxn) (by omega)
   have hbel:=hbn9 w.heap.size w (hbn w.heap.size w HB.out (by omega)) (by omega)
   rw[hW8] at hW9
   rw[←hW9]
   clear hW9 hW8
   obtain ⟨t0,t1,t2,t3,t4,tz⟩:=cells5 hxn9
   obtain ⟨r0,r1,r2,r3,rz⟩:=cells4 hxa9.out
   exact bodyPost_ret (v:=.tuple #[.agg #[.int .i64 (1+ki),.int .i64 wi,.int .i64 (1+ai),.int .i64 ut],pv A n c k9 last x9 p9]) (by simp [results,Tryz.results37,go_sem,pv,t0,t1,t2,t3,t4,r0,r1,r2,r3]) rfl ⟨_,[.agg #[.int .i64 (1+ki),.int .i64 wi,.int .i64 (1+ai),.int .i64 ut]],_,_,_,rfl,HV.out,⟨_,rfl,by rw [Int.add_comm 1 ki,Int.add_comm 1 ai];rfl⟩,HA.out,hbel⟩
end Go.Proofs.YtjonaidancomgaaGreatDoor
