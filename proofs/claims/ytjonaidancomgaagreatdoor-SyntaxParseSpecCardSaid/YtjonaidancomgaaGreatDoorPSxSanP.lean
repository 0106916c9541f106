/- Parts of the proof, joined into one text: SxSanP, SxOk, SxPut, LxTake, SxJoin, SxRd, SxPrI, SxCel, SxPrR. -/
import Derived.Test.YtjonaidancomgaaGreatDoorPLxPlain
import Derived.Test.YtjonaidancomgaaGreatDoorPSxSameC
import Derived.Test.YtjonaidancomgaaGreatDoorPSxParB
import Derived.Test.YtjonaidancomgaaGreatDoorPSxEqs
import Derived.Deep.AppendLies
import Derived.Deep.RegionWith
import Derived.StillTailTactics
import Derived.Test.YtjonaidancomgaaGreatDoorPSxCata
import Derived.Test.YtjonaidancomgaaGreatDoorPSxEq
import Derived.Test.YtjonaidancomgaaGreatDoorPSxLen
import Derived.Deep.LoopGhost
import Derived.Test.YtjonaidancomgaaGreatDoorPLxE

namespace Go.Proofs.YtjonaidancomgaaGreatDoor.Sx
open Lx (Tok)

def ex1:List UInt8:=[99,111,117,114,115,101,32,49,55,32,77,65,84,72,49,32,52,32,123,32,110,101,101,100,32,112,97,115,115,32,80,82,69,32,53,59,32,125]
def ex3:List UInt8:=[102,101,101,32,108,111,119,32,48]
def ex4:List UInt8:=[99,108,97,115,115,32,97,32,48,32,109,101,97,110,32,49,51,47,49,59]
def ex5:List UInt8:=[108,101,97,115,116,32,50,32,123,32,119,105,116,104,32,35,51,59,32,119,105,116,104,32,35,52,59,32,125]
def exAll:List UInt8:=[97,108,108,32,123,32,125]
def exOut:List UInt8:=[99,111,117,114,115,101,32,49,55,32,77,65,84,72,49,32,52,32,123,32,110,101,101,100,32,112,97,115,115,32,80,82,69,32,53,32,59,32,125]
def want1:Cat:={ Cat.none with courses:=[⟨[77,65,84,72,49],17,4,0,.mk 5 0 [80,82,69] 5 0 [],.mk 2 0 [] 0 0 []⟩] }
def two1:Rule:=.mk 3 0 [] 2 0 [.mk 9 3 [] 0 0 [],.mk 9 4 [] 0 0 []]
def allR:Rule:=.mk 1 0 [] 0 0 []
instance {α : Type} [DecidableEq α] : DecidableEq (Out α)
 | .ok a,.ok b=>if h:a=b then isTrue (by rw [h]) else isFalse fun e=>h (by injection e)
 | .bad p e,.bad q f=>if h:p=q∧e=f then isTrue (by rw [h.1,h.2]) else isFalse fun k=>h (by injection k with k1 k2;exact ⟨k1,k2⟩)
 | .ok _,.bad _ _=>isFalse fun e=>by cases e
 | .bad _ _,.ok _=>isFalse fun e=>by cases e
theorem ex1_ok:parse ex1 = .ok want1:=by decide +kernel
theorem ex2_ok:parse [] = .ok Cat.none:=by decide +kernel
theorem ex3_bad:parse ex3 = .bad 9 100:=by decide +kernel
theorem ex4_bad:parse ex4 = .bad 18 100:=by decide +kernel
theorem ex5_ok:parseRule ex5 = .ok two1:=by decide +kernel
theorem exAll_text:Lx.text (ruleT allR)=some exAll:=by decide +kernel
theorem want1_text:Lx.text (catT want1)=some exOut:=by decide +kernel
end Go.Proofs.YtjonaidancomgaaGreatDoor.Sx

namespace Go.Proofs.YtjonaidancomgaaGreatDoor
open Go.RowKit

theorem sIn (n a b:Int) (w:World):Calls Tryz.prog 119 #[.int .i64 n,.int .i64 a,.int .i64 b] w (BoolPost (Sx.inB n a b) w):=by
 by_cases h:a≤n
 ·go_enter Tryz.func119,Tryz.ntmps119
  go_wp2
  go_ret
  exact ⟨ret_bool (by simp [Sx.inB,h]),Below.refl _ _⟩
 ·go_enter Tryz.func119,Tryz.ntmps119
  go_wp2
  go_ret
  exact ⟨ret_bool (by simp [Sx.inB];omega),Below.refl _ _⟩
theorem sNameB (x:List UInt8) (w:World) (hx:x.length≤140737488351232):Calls Tryz.prog 118 #[.string (Lx.bs x)] w (BoolPost (Lx.isName x) w):=
 (lName (Lx.bs x) w (by rw [Lx.bs_size];unfold maxLen;omega)).mono fun e w' ⟨h1,h2⟩=>by
  rw[Lx.bs_list] at h1
  subst h2
  exact ⟨h1,Below.refl _ _⟩
set_option maxRecDepth 20000 in
set_option maxHeartbeats 1000000 in
theorem sRefOk (x:List UInt8) (n:Int) (w:World) (hx:x.length≤140737488351232):Calls Tryz.prog 116 #[.string (Lx.bs x),.int .i64 n] w (BoolPost (Sx.refOk x n) w):=by
 have H1:=Lh (fun W=>sIn n 0 4095 W)
 have H2:=Lh (fun W=>sNameB x W hx)
 obtain ⟨R,hR⟩:∃ R,R=Sx.refOk x n:=⟨_,rfl⟩
 rw[←hR]
 unfold Sx.refOk at hR
 have hbs:((Lx.bs x).toList == (⟨#[]⟩:ByteArray).toList)=x.isEmpty:=by rw [ByteArray.toList_eq,ByteArray.toList_eq,Lx.bs_list];cases x <;> rfl
 have hbs2:(Lx.bs x).toList.isEmpty=x.isEmpty:=by rw [ByteArray.toList_eq,Lx.bs_list]
 cases q1:Sx.inB n 0 4095 with
 | false=>
  rw[q1] at H1 hR
  have HR:Hid (R=false):=Lh (by rw [hR];rfl)
  clear hR
  go_enter Tryz.func116,Tryz.ntmps116
  go_wp2_with fail
  refine (H1.out _).mono ?_
  rintro e w1 ⟨rfl,hb1⟩
  have HB1:=Lh hb1
  clear hb1
  go_wp2_with fail
  go_ret
  exact ⟨ret_bool HR.out.symm,HB1.out⟩
 | true=>
  rw[q1] at H1 hR
  cases q2:x.isEmpty with
  | true=>
   rw[q2] at hbs hbs2 hR
   have HR:Hid (R=true):=Lh (by rw [hR];rfl)
   clear hR
   go_enter Tryz.func116,Tryz.ntmps116
   go_wp2_with fail
   refine (H1.out _).mono ?_
   rintro e w1 ⟨rfl,hb1⟩
   have HB1:=Lh hb1
   clear hb1
   go_wp2_with fail
   go_ret
   exact ⟨ret_bool HR.out.symm,HB1.out⟩
  | false=>
   rw[q2] at hbs hbs2 hR
   have HR:=Lh hR
   clear hR
   go_enter Tryz.func116,Tryz.ntmps116
   go_wp2_with fail
   refine (H1.out _).mono ?_
   rintro e w1 ⟨rfl,hb1⟩
   have HB1:=Lh hb1
   clear hb1
   go_wp2_with fail
   refine (H2.out _).mono ?_
   rintro e w2 ⟨rfl,hb2⟩
   have HB2:=Lh (HB1.out.trans (hb2.mono HB1.out.size))
   clear hb2
   go_wp2_with fail
   go_ret
   exact ⟨ret_bool (by rw [HR.out];rfl),HB2.out⟩

end Go.Proofs.YtjonaidancomgaaGreatDoor

namespace Go.Proofs.YtjonaidancomgaaGreatDoor
open Go.RowKit

def PrSt (g:Nat) (l:List Lx.Tok) (w:World):Prop:=∃ vT,Blk w g 110 #[vT]∧w.ownsRow g 55 4 vT l.length (l.flatMap Lx.Tok.cells)
structure KP (w w' : World) : Prop where
 size:w.heap.size≤w'.heap.size
 keep:∀ (k:Nat) (o:Obj),w.heap[k]?=some o→(∀ cs t fr,o = .cells cs t fr→t≠55∧t≠110)→w'.heap[k]?=some o
theorem KP.refl (w:World):KP w w:=⟨Nat.le_refl _,fun _ _ h _=>h⟩
theorem KP.trans {a b c:World} (h:KP a b) (k:KP b c):KP a c:=⟨Nat.le_trans h.size k.size,fun i o hi ho=>k.keep i o (h.keep i o hi ho) ho⟩
theorem KP.below {w w':World} (h:Below w.heap.size w w'):KP w w':=⟨h.size,fun k _ hk _=>(h.block k (Array.getElem?_eq_some_iff.1 hk).1).trans hk⟩
theorem KP.blk {w w':World} (h:KP w w') {b:Nat} {t:TypeId} {cs:Array Value} (hb:Blk w b t cs) (h1:t≠55) (h2:t≠110):Blk w' b t cs:=
 h.keep b _ hb (fun _ _ _ e=>by injection e with _ e _;subst e;exact ⟨h1,h2⟩)
theorem KP.set {w w':World} (h:KP w w') {b i:Nat} (hb:w.heap.size≤b) (u:Value):KP w (w'.setCell ⟨b,i,none⟩ u):=
 ⟨by simpa [World.setCell] using h.size,fun k o hk ho=>(Below.heap_setCell w' ⟨b,i,none⟩ u k (fun e=>by have:=(Array.getElem?_eq_some_iff.1 hk).1;have e:k=b:=e;omega)).trans (h.keep k o hk ho)⟩
theorem PrSt.lt {g:Nat} {l:List Lx.Tok} {w:World} (h:PrSt g l w):g < w.heap.size:=by
 obtain ⟨vT,h1,_⟩:=h
 exact h1.lt
theorem PrSt.next {g:Nat} {l:List Lx.Tok} {w w':World} (h:PrSt g l w) (hb:Below w.heap.size w w'):PrSt g l w':=by
 obtain ⟨vT,h1,h3⟩:=h
 exact ⟨vT,h1.below hb h1.lt,own_below h3 hb⟩
theorem pr_grow {g gg cap:Nat} {vT:Value} {l:List Lx.Tok} {x:Lx.Tok} {w w1 w3:World} (hb:Blk w g 110 #[vT])
  (hown:w.ownsRow g 55 4 vT l.length (l.flatMap Lx.Tok.cells)) (h1:Below w.heap.size w w1) (hgrow:w1.grownBy w3 vT.ownBlock)
  (hown3:w3.ownsRow g 55 4 (.slice (some ⟨gg,0,none⟩) (l.length+1) cap) (l.length+1) (l.flatMap Lx.Tok.cells++x.cells)) :
  Blk w3 g 110 #[vT]∧PrSt g (l++[x]) (w3.setCell ⟨g,0,none⟩ (.slice (some ⟨gg,0,none⟩) (l.length+1) cap))∧
  Below g w (w3.setCell ⟨g,0,none⟩ (.slice (some ⟨gg,0,none⟩) (l.length+1) cap))∧KP w (w3.setCell ⟨g,0,none⟩ (.slice (some ⟨gg,0,none⟩) (l.length+1) cap)):=by
 have hlt:=hb.lt
 have hne:=own_ne hown hb (by decide)
 have hb1:=hb.below h1 hlt
 have hb3:Blk w3 g 110 #[vT]:=(hgrow.block g hb1.lt (fun e=>hne e.symm)).trans hb1
 have hbel:Below g w w3:=Below.grown (h1.mono (by omega)) hgrow (by have:=h1.size;omega) (fun k hk=>own_ge hown hk)
 refine ⟨hb3,⟨_,by have:=hb3.set 0 (.slice (some ⟨gg,0,none⟩) (l.length+1) cap);simpa using this,?_⟩,hbel.setCell (p:=⟨g,0,none⟩) (Nat.le_refl _) _,?_⟩
 ·rw[List.length_append,List.flatMap_append]
  have:[x].flatMap Lx.Tok.cells=x.cells:=by simp
  rw[this]
  exact own_setCell_far hown3 (own_ne hown3 hb3 (by decide)) _
 ·refine ⟨by have:=h1.size;have:=hgrow.size;simp[World.setCell];omega,fun k o hk ho=>?_⟩
  have hkl:=(Array.getElem?_eq_some_iff.1 hk).1
  have hk1:=(h1.block k hkl).trans hk
  have hgk:k≠g:=fun e=>by
   subst e
   unfold Blk at hb
   rw[hk] at hb
   injection hb with hb
   exact (ho _ _ _ hb).2 rfl
  rw[Below.heap_setCell w3 ⟨g,0,none⟩ _ k hgk]
  refine (hgrow.block k (Array.getElem?_eq_some_iff.1 hk1).1 (fun e=>?_)).trans hk1
  rcases hown.2 with ⟨rfl,_⟩ | ⟨g',cap',cur',rfl,_,hh',_⟩
  ·simp[Value.ownBlock] at e
  ·have:k=g':=by simpa [Value.ownBlock] using e
   subst this
   rw[hk] at hh'
   injection hh' with hh'
   exact (ho _ _ _ hh').1 rfl

def TPost (g:Nat) (l ts:List Lx.Tok) (w:World) (e:Ending) (w':World):Prop:=
 e = .returned (.tuple #[])∧PrSt g (l++ts) w'∧Below g w w'∧KP w w'

inductive PrIt where
 | name (t:List UInt8)
 | sign (t:List UInt8)
 | num (n:Int)
 | ratio (r:Sx.Ratio)
 | rule (r:Sx.Rule) (cs:List Value)
def PrIt.val:PrIt→Value
 | .name t=>.iface 9 (.string (Lx.bs t))
 | .sign t=>.iface 114 (.string (Lx.bs t))
 | .num n=>.iface 3 (.int .i64 n)
 | .ratio r=>.iface 75 (.agg #[.int .i64 r.num,.int .i64 r.den])
 | .rule _ cs=>.iface 38 (.agg cs.toArray)
def PrIt.toks:PrIt→List Lx.Tok
 | .name t=>[⟨1,t,0,0⟩]
 | .sign t=>[⟨3,t,0,0⟩]
 | .num n=>[⟨2,[],n,0⟩]
 | .ratio r=>Sx.ratioT r
 | .rule r _=>Sx.ruleT r
def PrIt.flat:PrIt→Prop
 | .ratio _=>False
 | .rule _ _=>False
 | _=>True
theorem under_printer:Tryz.prog.underlying 110=some (.slice 55):=by kernel_rfl
-- the assertions of put's switch
theorem as_str (x:ByteArray) (w:World):(Instr.typeAssert (.iface 9 (.string x)) 20 9 true).run Tryz.prog w = .ok (.tuple #[.string x,.bool true]) w:=by kernel_rfl
theorem as_str_sg (x:ByteArray) (w:World):(Instr.typeAssert (.iface 114 (.string x)) 20 9 true).run Tryz.prog w = .ok (.tuple #[.string ⟨#[]⟩,.bool false]) w:=by kernel_rfl
theorem as_str_int (x:Int) (w:World):(Instr.typeAssert (.iface 3 (.int .i64 x)) 20 9 true).run Tryz.prog w = .ok (.tuple #[.string ⟨#[]⟩,.bool false]) w:=by kernel_rfl
theorem as_str_rat (v:Value) (w:World):(Instr.typeAssert (.iface 75 v) 20 9 true).run Tryz.prog w = .ok (.tuple #[.string ⟨#[]⟩,.bool false]) w:=by kernel_rfl
theorem as_str_rul (v:Value) (w:World):(Instr.typeAssert (.iface 38 v) 20 9 true).run Tryz.prog w = .ok (.tuple #[.string ⟨#[]⟩,.bool false]) w:=by kernel_rfl
theorem as_sg (x:ByteArray) (w:World):(Instr.typeAssert (.iface 114 (.string x)) 20 114 true).run Tryz.prog w = .ok (.tuple #[.string x,.bool true]) w:=by kernel_rfl
theorem as_sg_int (x:Int) (w:World):(Instr.typeAssert (.iface 3 (.int .i64 x)) 20 114 true).run Tryz.prog w = .ok (.tuple #[.string ⟨#[]⟩,.bool false]) w:=by kernel_rfl
theorem as_sg_rat (v:Value) (w:World):(Instr.typeAssert (.iface 75 v) 20 114 true).run Tryz.prog w = .ok (.tuple #[.string ⟨#[]⟩,.bool false]) w:=by kernel_rfl
theorem as_sg_rul (v:Value) (w:World):(Instr.typeAssert (.iface 38 v) 20 114 true).run Tryz.prog w = .ok (.tuple #[.string ⟨#[]⟩,.bool false]) w:=by kernel_rfl
theorem as_int (x:Int) (w:World):(Instr.typeAssert (.iface 3 (.int .i64 x)) 20 3 true).run Tryz.prog w = .ok (.tuple #[.int .i64 x,.bool true]) w:=by kernel_rfl
theorem as_int_rat (v:Value) (w:World):(Instr.typeAssert (.iface 75 v) 20 3 true).run Tryz.prog w = .ok (.tuple #[.int .i64 0,.bool false]) w:=by kernel_rfl
theorem as_int_rul (v:Value) (w:World):(Instr.typeAssert (.iface 38 v) 20 3 true).run Tryz.prog w = .ok (.tuple #[.int .i64 0,.bool false]) w:=by kernel_rfl
theorem as_rat (v:Value) (w:World):(Instr.typeAssert (.iface 75 v) 20 75 true).run Tryz.prog w = .ok (.tuple #[v,.bool true]) w:=by kernel_rfl
theorem as_rat_rul (v:Value) (w:World):(Instr.typeAssert (.iface 38 v) 20 75 true).run Tryz.prog w = .ok (.tuple #[.agg #[.int .i64 0,.int .i64 0],.bool false]) w:=by kernel_rfl
theorem as_rul (v:Value) (w:World):(Instr.typeAssert (.iface 38 v) 20 38 true).run Tryz.prog w = .ok (.tuple #[v,.bool true]) w:=by kernel_rfl

def PutFlat (g:Nat):Prop:=∀ (its:List PrIt) (l:List Lx.Tok) (b:Nat) (W:World),(∀ j∈its,j.flat)→PrSt g l W→Blk W b 20 (its.map PrIt.val).toArray→its.length≤100→l.length+(its.flatMap PrIt.toks).length≤60000→
 Calls Tryz.prog 50 #[.pointer (some ⟨g,0,none⟩),.slice (some ⟨b,0,none⟩) its.length its.length] W (TPost g l (its.flatMap PrIt.toks) W)
def RuleSays (g:Nat) (w:World) (r:Sx.Rule) (cs:List Value):Prop:=(∃ v0 v1 v2 v3 v4 A n c,cs = [.int .i64 v0,.int .i64 v1,.string v2,.int .i64 v3,.int .i64 v4,.slice A n c])∧
 ∀ (l:List Lx.Tok) (W:World),PrSt g l W→Below g w W→l.length+(Sx.ruleT r).length≤60000→Calls Tryz.prog 58 #[.pointer (some ⟨g,0,none⟩),.agg cs.toArray] W (TPost g l (Sx.ruleT r) W)

set_option maxRecDepth 20000 in
set_option maxHeartbeats 4000000 in
theorem lPutG (g:Nat) (its:List PrIt) (l:List Lx.Tok) (b:Nat) (w:World) (h:PrSt g l w) (hb:Blk w b 20 (its.map PrIt.val).toArray) (hn1:its.length≤100) (hlen:l.length+(its.flatMap PrIt.toks).length≤60000)
  (hrec:(∃ r,PrIt.ratio r∈its)→PutFlat g) (hrul:∀ r cs,PrIt.rule r cs∈its→RuleSays g w r cs) :
  Calls Tryz.prog 50 #[.pointer (some ⟨g,0,none⟩),.slice (some ⟨b,0,none⟩) its.length its.length] w (TPost g l (its.flatMap PrIt.toks) w):=by
 obtain ⟨i0,hi0,hz0,hz1,hz2⟩:=info_parts Tryz.infoTok
 obtain ⟨n,hn⟩:∃ n,n=its.length:=⟨_,rfl⟩
 rw[←hn] at hn1 ⊢
 have Hn:=Lh hn;have H:=Lh h;have Hb:=Lh hb;have Hrec:=Lh hrec;have Hrul:=Lh hrul;have Hlen:=Lh hlen
 have hglt:=h.lt
 clear hn h hb hrec hrul hlen
 go_enter Tryz.func50,Tryz.ntmps50
 go_wp2_with fail
 go_loopw [13] (fun v13 wr=>∃ k:Nat,k≤n∧v13 = .int .i64 k∧PrSt g (l++(its.take k).flatMap PrIt.toks) wr∧Below g w wr∧KP w wr) (fun v13 _=>n - (intOf v13).toNat)
 case atStart=>exact ⟨0,by omega,rfl,by simpa using H.out,Below.refl _ _,KP.refl _⟩
 case round=>
  obtain ⟨k,hk,rfl,hS,hbel,hkp⟩:=hrel
  by_cases hlt:k < n
  ·obtain ⟨x,hx⟩:∃ x,its[k]?=some x:=⟨_,List.getElem?_eq_getElem (by have:=Hn.out;omega)⟩
   have hbr:=hkp.blk Hb.out (by decide) (by decide)
   have c0:=hbr.cell k
   rw[List.getElem?_toArray,List.getElem?_map,hx] at c0
   simp only[Option.map_some] at c0
   obtain ⟨L,hL⟩:∃ L,L=l++(its.take k).flatMap PrIt.toks:=⟨_,rfl⟩
   have hLn:l++(its.take (k+1)).flatMap PrIt.toks=L++x.toks:=by
    rw[List.take_add_one,hx,List.flatMap_append,←List.append_assoc,←hL];simp
   have hLl:L.length+x.toks.length≤60000:=by
    have e:its.flatMap PrIt.toks=(its.take (k+1)).flatMap PrIt.toks++(its.drop (k+1)).flatMap PrIt.toks:=by rw [←List.flatMap_append,List.take_append_drop]
    have h1:=congrArg List.length hLn
    have h2:=Hlen.out
    rw[e] at h2
    simp only[List.length_append] at h1 h2
    omega
   rw[←hL] at hS
   have hszr:=hbel.size
   have Hx:=Lh hx;have HLn:=Lh hLn;have HS:=Lh hS;have Hbel:=Lh hbel;have Hkp:=Lh hkp
   obtain ⟨vT,hp,hown⟩:=hS
   have p0:=hp.cell 0;have pf0:=hp.free 0
   have hgr:=hp.lt
   simp at p0
   have Hp:=Lh hp;have Hown:=Lh hown
   clear hL hLn hbel hkp hbr hx hp hown
   cases x with
   | name t=>
    have ha:=as_str (Lx.bs t)
    simp only[PrIt.val] at c0
    simp only[PrIt.toks,List.length_singleton] at hLl
    go_wp2_with (at_builtin;refine wpList_append_lies _ rfl _ _ _ rfl g 55 i0 _ 4 40 under_printer hi0 hz0 hz1 hz2 rfl (by omega) _ L.length _ rfl ((Hown.out).alloc _) ⟨wr.heap.size,0,none⟩ 1 1 [.int .i64 1,.string (Lx.bs t),.int .i64 0,.int .i64 0] rfl rfl (World.news_of_block (cs:=#[.int .i64 1,.string (Lx.bs t),.int .i64 0,.int .i64 0]) (t:=55) (fr:=(0,0)) (heap_alloc_new wr _)) (by simp [Value.oneCell']) (by omega) (by unfold maxLen;omega) (by omega) (by simp;omega) (wr.heap.size+1) (by simp) ?_;intro gg cap w3 hown3 hgrow3 hat3 hlt3;have hG:=pr_grow (x:=⟨1,t,0,0⟩) Hp.out Hown.out ((Below.refl _ _).alloc (Nat.le_refl _) _) hgrow3 hown3;have d1:=hG.1.cell 0;have df1:=hG.1.free 0;simp at d1;have HG:=Lh hG.2;clear hG hown3 hgrow3 hat3)
    go_roundw
    case rel=>exact ⟨k+1,by omega,by go_num,by rw [HLn.out];exact HG.out.1,Hbel.out.trans HG.out.2.1,Hkp.out.trans HG.out.2.2⟩
    case measure=>simp [intOf];omega
   | sign t=>
    have ha:=as_str_sg (Lx.bs t)
    have ha2:=as_sg (Lx.bs t)
    simp only[PrIt.val] at c0
    simp only[PrIt.toks,List.length_singleton] at hLl
    go_wp2_with (at_builtin;refine wpList_append_lies _ rfl _ _ _ rfl g 55 i0 _ 4 40 under_printer hi0 hz0 hz1 hz2 rfl (by omega) _ L.length _ rfl ((Hown.out).alloc _) ⟨wr.heap.size,0,none⟩ 1 1 [.int .i64 3,.string (Lx.bs t),.int .i64 0,.int .i64 0] rfl rfl (World.news_of_block (cs:=#[.int .i64 3,.string (Lx.bs t),.int .i64 0,.int .i64 0]) (t:=55) (fr:=(0,0)) (heap_alloc_new wr _)) (by simp [Value.oneCell']) (by omega) (by unfold maxLen;omega) (by omega) (by simp;omega) (wr.heap.size+1) (by simp) ?_;intro gg cap w3 hown3 hgrow3 hat3 hlt3;have hG:=pr_grow (x:=⟨3,t,0,0⟩) Hp.out Hown.out ((Below.refl _ _).alloc (Nat.le_refl _) _) hgrow3 hown3;have d1:=hG.1.cell 0;have df1:=hG.1.free 0;simp at d1;have HG:=Lh hG.2;clear hG hown3 hgrow3 hat3)
    go_roundw
    case rel=>exact ⟨k+1,by omega,by go_num,by rw [HLn.out];exact HG.out.1,Hbel.out.trans HG.out.2.1,Hkp.out.trans HG.out.2.2⟩
    case measure=>simp [intOf];omega
   | num z=>
    have ha:=as_str_int z
    have ha2:=as_sg_int z
    have ha3:=as_int z
    simp only[PrIt.val] at c0
    simp only[PrIt.toks,List.length_singleton] at hLl
    go_wp2_with (at_builtin;refine wpList_append_lies _ rfl _ _ _ rfl g 55 i0 _ 4 40 under_printer hi0 hz0 hz1 hz2 rfl (by omega) _ L.length _ rfl ((Hown.out).alloc _) ⟨wr.heap.size,0,none⟩ 1 1 [.int .i64 2,.string ⟨#[]⟩,.int .i64 z,.int .i64 0] rfl rfl (World.news_of_block (cs:=#[.int .i64 2,.string ⟨#[]⟩,.int .i64 z,.int .i64 0]) (t:=55) (fr:=(0,0)) (heap_alloc_new wr _)) (by simp [Value.oneCell']) (by omega) (by unfold maxLen;omega) (by omega) (by simp;omega) (wr.heap.size+1) (by simp) ?_;intro gg cap w3 hown3 hgrow3 hat3 hlt3;have hG:=pr_grow (x:=⟨2,[],z,0⟩) Hp.out Hown.out ((Below.refl _ _).alloc (Nat.le_refl _) _) hgrow3 hown3;have d1:=hG.1.cell 0;have df1:=hG.1.free 0;simp at d1;have HG:=Lh hG.2;clear hG hown3 hgrow3 hat3)
    go_roundw
    case rel=>exact ⟨k+1,by omega,by go_num,by rw [HLn.out];exact HG.out.1,Hbel.out.trans HG.out.2.1,Hkp.out.trans HG.out.2.2⟩
    case measure=>simp [intOf];omega
   | ratio r=>
    obtain ⟨rn,rd⟩:=r
    have ha:=as_str_rat (.agg #[.int .i64 rn,.int .i64 rd])
    have ha2:=as_sg_rat (.agg #[.int .i64 rn,.int .i64 rd])
    have ha3:=as_int_rat (.agg #[.int .i64 rn,.int .i64 rd])
    have ha4:=as_rat (.agg #[.int .i64 rn,.int .i64 rd])
    simp only[PrIt.val] at c0
    have hflat:=Hrec.out ⟨_,List.mem_of_getElem? Hx.out⟩
    have Hflat:=Lh hflat
    have HLl:=Lh hLl
    clear hflat hLl
    go_wp2_with fail
    obtain ⟨W,hW⟩:∃ W,W=(wr.alloc (.cells #[.int .i64 rn,.int .i64 rd] 75)).alloc (.cells #[.iface 3 (.int .i64 rn),.iface 114 (.string ⟨#[47]⟩),.iface 3 (.int .i64 rd)] 20):=⟨_,rfl⟩
    have hbw:Below wr.heap.size wr W:=by rw [hW];exact ((Below.refl _ _).alloc (Nat.le_refl _) _).alloc (by simp) _
    have hbb:Blk W (wr.heap.size+1) 20 ([PrIt.num rn,PrIt.sign [47],PrIt.num rd].map PrIt.val).toArray:=by rw [hW];exact Blk.new_at _ _ (by simp)
    rw[←hW]
    refine (Hflat.out [.num rn,.sign [47],.num rd] L _ W (by simp [PrIt.flat]) (HS.out.next hbw) hbb (by simp) (by simpa [PrIt.toks,Sx.ratioT] using HLl.out)).mono ?_
    rintro e w3 ⟨rfl,h3,h4,h5⟩
    have H3:=Lh h3;have H4:=Lh ((hbw.mono (by omega)).trans h4);have H5:=Lh ((KP.below hbw).trans h5)
    clear h3 h4 h5 hbw hbb hW
    go_wp2_with fail
    go_roundw
    case rel=>exact ⟨k+1,by omega,by go_num,by rw [HLn.out];exact H3.out,Hbel.out.trans H4.out,Hkp.out.trans H5.out⟩
    case measure=>simp [intOf];omega
   | rule r cs=>
    obtain ⟨⟨v0,v1,v2,v3,v4,A,m,c,rfl⟩,hcall⟩:=Hrul.out r cs (List.mem_of_getElem? Hx.out)
    have ha:=as_str_rul (.agg #[.int .i64 v0,.int .i64 v1,.string v2,.int .i64 v3,.int .i64 v4,.slice A m c])
    have ha2:=as_sg_rul (.agg #[.int .i64 v0,.int .i64 v1,.string v2,.int .i64 v3,.int .i64 v4,.slice A m c])
    have ha3:=as_int_rul (.agg #[.int .i64 v0,.int .i64 v1,.string v2,.int .i64 v3,.int .i64 v4,.slice A m c])
    have ha4:=as_rat_rul (.agg #[.int .i64 v0,.int .i64 v1,.string v2,.int .i64 v3,.int .i64 v4,.slice A m c])
    have ha5:=as_rul (.agg #[.int .i64 v0,.int .i64 v1,.string v2,.int .i64 v3,.int .i64 v4,.slice A m c])
    simp only[PrIt.val] at c0
    have Hcall:=Lh hcall
    have HLl:=Lh hLl
    clear hcall hLl
    go_wp2_with fail
    obtain ⟨W,hW⟩:∃ W,W=wr.alloc (.cells #[.int .i64 v0,.int .i64 v1,.string v2,.int .i64 v3,.int .i64 v4,.slice A m c] 38):=⟨_,rfl⟩
    have hbw:Below wr.heap.size wr W:=by rw [hW];exact (Below.refl _ _).alloc (Nat.le_refl _) _
    rw[←hW]
    refine (Hcall.out L W (HS.out.next hbw) (Hbel.out.trans (hbw.mono (by omega))) HLl.out).mono ?_
    rintro e w3 ⟨rfl,h3,h4,h5⟩
    have H3:=Lh h3;have H4:=Lh ((hbw.mono (by omega)).trans h4);have H5:=Lh ((KP.below hbw).trans h5)
    clear h3 h4 h5 hbw hW
    go_wp2_with fail
    go_roundw
    case rel=>exact ⟨k+1,by omega,by go_num,by rw [HLn.out];exact H3.out,Hbel.out.trans H4.out,Hkp.out.trans H5.out⟩
    case measure=>simp [intOf];omega
  ·obtain rfl:k=n:=by omega
   go_wp2_with fail
   go_end0
   exact ⟨rfl,by rw [Hn.out,List.take_length] at hS;exact hS,hbel,hkp⟩

theorem lPutFlat (g:Nat):PutFlat g:=fun its l b W hj h hb h1 hl=>
 lPutG g its l b W h hb h1 hl (fun ⟨_r,hr⟩=>(hj _ hr).elim) (fun _r _cs hr=>(hj _ hr).elim)
theorem lPut (g:Nat) (its:List PrIt) (l:List Lx.Tok) (b:Nat) (w:World) (h:PrSt g l w) (hb:Blk w b 20 (its.map PrIt.val).toArray) (hn1:its.length≤100) (hlen:l.length+(its.flatMap PrIt.toks).length≤60000) (hrul:∀ r cs,PrIt.rule r cs∈its→RuleSays g w r cs) :
  Calls Tryz.prog 50 #[.pointer (some ⟨g,0,none⟩),.slice (some ⟨b,0,none⟩) its.length its.length] w (TPost g l (its.flatMap PrIt.toks) w):=
 lPutG g its l b w h hb hn1 hlen (fun _=>lPutFlat g) hrul
end Go.Proofs.YtjonaidancomgaaGreatDoor

namespace Go.Proofs.YtjonaidancomgaaGreatDoor.Lx

end Go.Proofs.YtjonaidancomgaaGreatDoor.Lx

namespace Go.Proofs.YtjonaidancomgaaGreatDoor.Lx

end Go.Proofs.YtjonaidancomgaaGreatDoor.Lx
namespace Go.Proofs.YtjonaidancomgaaGreatDoor.Sx
open Lx (Tok)
end Go.Proofs.YtjonaidancomgaaGreatDoor.Sx

namespace Go.Proofs.YtjonaidancomgaaGreatDoor.Sx
open Lx (Tok)
variable {last : Int} {l m : List Tok}

end Go.Proofs.YtjonaidancomgaaGreatDoor.Sx

namespace Go.Proofs.YtjonaidancomgaaGreatDoor
open Go.RowKit

structure PI (g : Nat) (l : List Lx.Tok) (w0 w : World) : Prop where
 st:PrSt g l w
 bel:Below g w0 w
 kp:KP w0 w
def PIPost (g:Nat) (l:List Lx.Tok) (w0:World) (e:Ending) (w':World):Prop:=e = .returned (.tuple #[])∧PI g l w0 w'
theorem PI.start {g:Nat} {l:List Lx.Tok} {w:World} (h:PrSt g l w):PI g l w w:=⟨h,Below.refl _ _,KP.refl _⟩
theorem PI.next {g:Nat} {l:List Lx.Tok} {w0 w w':World} (h:PI g l w0 w) (hb:Below w.heap.size w w'):PI g l w0 w':=
 ⟨h.st.next hb,h.bel.trans (hb.mono (Nat.le_of_lt h.st.lt)),h.kp.trans (KP.below hb)⟩
theorem PI.post {g:Nat} {l ts:List Lx.Tok} {w0 w w':World} {e:Ending} (h:PI g l w0 w) (ht:TPost g l ts w e w'):PIPost g (l++ts) w0 e w':=
 ⟨ht.1,ht.2.1,h.bel.trans ht.2.2.1,h.kp.trans ht.2.2.2⟩
theorem PI.blk {g:Nat} {l:List Lx.Tok} {w0 w:World} (h:PI g l w0 w) {b:Nat} {t:TypeId} {cs:Array Value} (hb:Blk w0 b t cs) (h1:t≠55) (h2:t≠110):Blk w b t cs:=h.kp.blk hb h1 h2
theorem RuleSays.later {g:Nat} {w w':World} {r:Sx.Rule} {cs:List Value} (h:RuleSays g w r cs) (hb:Below g w w'):RuleSays g w' r cs:=
 ⟨h.1,fun l W hW hB hl=>h.2 l W hW (hb.trans hB) hl⟩
theorem PI.put {g:Nat} {l:List Lx.Tok} {w0 w:World} (h:PI g l w0 w) (its:List PrIt) {cs:Array Value} {n b:Nat} {ts:List Lx.Tok} (hb0:b=w.heap.size) (hcs:cs=(its.map PrIt.val).toArray) (hn:n=its.length) (hts:its.flatMap PrIt.toks=ts) (hn1:n≤100) (hlen:l.length+ts.length≤60000)
  (hrul:∀ r c,PrIt.rule r c∈its→RuleSays g w0 r c) :
  Calls Tryz.prog 50 #[.pointer (some ⟨g,0,none⟩),.slice (some ⟨b,0,none⟩) n n] (w.alloc (.cells cs 20)) (PIPost g (l++ts) w0):=by
 subst hb0;subst hcs;subst hn;subst hts
 have hb:Below w.heap.size w (w.alloc (.cells (its.map PrIt.val).toArray 20)):=(Below.refl _ _).alloc (Nat.le_refl _) _
 have h1:=h.next hb
 exact (lPut g its l w.heap.size _ h1.st (Blk.new _ _ _) hn1 hlen (fun r c hr=>(hrul r c hr).later h1.bel)).mono fun e w' he=>h1.post he

set_option maxRecDepth 20000 in
set_option maxHeartbeats 2000000 in
theorem lRef (g:Nat) (nm:List UInt8) (n:Int) (l:List Lx.Tok) (w:World) (h:PrSt g l w) (hlen:l.length+(Sx.refT nm n).length≤60000) :
  Calls Tryz.prog 51 #[.pointer (some ⟨g,0,none⟩),.string (Lx.bs nm),.int .i64 n] w (TPost g l (Sx.refT nm n) w):=by
 have H:=Lh (PI.start h)
 have hbs:((Lx.bs nm).toList == (⟨#[]⟩:ByteArray).toList)=nm.isEmpty:=by rw [ByteArray.toList_eq,ByteArray.toList_eq,Lx.bs_list];cases nm <;> rfl
 have hbs2:(Lx.bs nm).toList.isEmpty=nm.isEmpty:=by rw [ByteArray.toList_eq,Lx.bs_list]
 clear h
 cases q:nm.isEmpty with
 | true=>
  rw[q] at hbs hbs2
  have ht:Sx.refT nm n = [Sx.sgT 35,Sx.numT n]:=by unfold Sx.refT;rw[q];rfl
  rw[ht] at hlen
  simp at hlen
  have Ht:=Lh ht
  clear ht
  go_enter Tryz.func51,Tryz.ntmps51
  go_wp2_with fail
  refine (H.out.put [.sign [35],.num n] (ts:=[Sx.sgT 35,Sx.numT n]) rfl rfl rfl rfl (by simp) (by simp;omega) (by simp)).mono ?_
  rintro e w1 ⟨rfl,h1⟩
  have H1:=Lh h1
  clear h1
  go_wp2_with fail
  go_end0
  exact ⟨rfl,by rw [Ht.out];exact H1.out.st,H1.out.bel,H1.out.kp⟩
 | false=>
  rw[q] at hbs hbs2
  have ht:Sx.refT nm n = [Sx.nameT nm]:=by unfold Sx.refT;rw[q];rfl
  rw[ht] at hlen
  simp at hlen
  have Ht:=Lh ht
  clear ht
  go_enter Tryz.func51,Tryz.ntmps51
  go_wp2_with fail
  refine (H.out.put [.name nm] (ts:=[Sx.nameT nm]) rfl rfl rfl rfl (by simp) (by simp;omega) (by simp)).mono ?_
  rintro e w1 ⟨rfl,h1⟩
  have H1:=Lh h1
  clear h1
  go_wp2_with fail
  go_end0
  exact ⟨rfl,by rw [Ht.out];exact H1.out.st,H1.out.bel,H1.out.kp⟩
theorem PI.ref {g:Nat} {l:List Lx.Tok} {w0 w:World} (h:PI g l w0 w) (nm:List UInt8) (n:Int) (hlen:l.length+(Sx.refT nm n).length≤60000) :
  Calls Tryz.prog 51 #[.pointer (some ⟨g,0,none⟩),.string (Lx.bs nm),.int .i64 n] w (PIPost g (l++Sx.refT nm n) w0):=
 (lRef g nm n l w h.st hlen).mono fun _e _w' he=>h.post he
theorem PI.rule {g:Nat} {l:List Lx.Tok} {w0 w:World} (h:PI g l w0 w) {r:Sx.Rule} {cs:List Value} (hr:RuleSays g w0 r cs) (hlen:l.length+(Sx.ruleT r).length≤60000) :
  Calls Tryz.prog 58 #[.pointer (some ⟨g,0,none⟩),.agg cs.toArray] w (PIPost g (l++Sx.ruleT r) w0):=
 (hr.2 l w h.st h.bel hlen).mono fun _e _w' he=>h.post he
end Go.Proofs.YtjonaidancomgaaGreatDoor

namespace Go.Proofs.YtjonaidancomgaaGreatDoor
open Go.RowKit

theorem cells2 {w:World} {b:Nat} {t:TypeId} {v0 v1:Value} (h:Blk w b t #[v0,v1]):w.cell? ⟨b,0,none⟩=some v0∧w.cell? ⟨b,1,none⟩=some v1∧b < w.heap.size:=
 ⟨(h.cell 0).trans rfl,(h.cell 1).trans rfl,h.lt⟩
theorem cells4 {w:World} {b:Nat} {t:TypeId} {v0 v1 v2 v3:Value} (h:Blk w b t #[v0,v1,v2,v3]):w.cell? ⟨b,0,none⟩=some v0∧w.cell? ⟨b,1,none⟩=some v1∧w.cell? ⟨b,2,none⟩=some v2∧w.cell? ⟨b,3,none⟩=some v3∧b < w.heap.size:=
 ⟨(h.cell 0).trans rfl,(h.cell 1).trans rfl,(h.cell 2).trans rfl,(h.cell 3).trans rfl,h.lt⟩
theorem cells6 {w:World} {b:Nat} {t:TypeId} {v0 v1 v2 v3 v4 v5:Value} (h:Blk w b t #[v0,v1,v2,v3,v4,v5]):w.cell? ⟨b,0,none⟩=some v0∧w.cell? ⟨b,1,none⟩=some v1∧w.cell? ⟨b,2,none⟩=some v2∧w.cell? ⟨b,3,none⟩=some v3∧w.cell? ⟨b,4,none⟩=some v4∧w.cell? ⟨b,5,none⟩=some v5∧b < w.heap.size:=
 ⟨(h.cell 0).trans rfl,(h.cell 1).trans rfl,(h.cell 2).trans rfl,(h.cell 3).trans rfl,(h.cell 4).trans rfl,(h.cell 5).trans rfl,h.lt⟩
theorem cells7 {w:World} {b:Nat} {t:TypeId} {v0 v1 v2 v3 v4 v5 v6:Value} (h:Blk w b t #[v0,v1,v2,v3,v4,v5,v6]):w.cell? ⟨b,0,none⟩=some v0∧w.cell? ⟨b,1,none⟩=some v1∧w.cell? ⟨b,2,none⟩=some v2∧w.cell? ⟨b,3,none⟩=some v3∧w.cell? ⟨b,4,none⟩=some v4∧w.cell? ⟨b,5,none⟩=some v5∧w.cell? ⟨b,6,none⟩=some v6∧b < w.heap.size:=
 ⟨(h.cell 0).trans rfl,(h.cell 1).trans rfl,(h.cell 2).trans rfl,(h.cell 3).trans rfl,(h.cell 4).trans rfl,(h.cell 5).trans rfl,(h.cell 6).trans rfl,h.lt⟩
theorem cells16 {w:World} {b:Nat} {t:TypeId} {v0 v1 v2 v3 v4 v5 v6 v7 v8 v9 v10 v11 v12 v13 v14 v15:Value} (h:Blk w b t #[v0,v1,v2,v3,v4,v5,v6,v7,v8,v9,v10,v11,v12,v13,v14,v15]):w.cell? ⟨b,0,none⟩=some v0∧w.cell? ⟨b,1,none⟩=some v1∧w.cell? ⟨b,2,none⟩=some v2∧w.cell? ⟨b,3,none⟩=some v3∧w.cell? ⟨b,4,none⟩=some v4∧w.cell? ⟨b,5,none⟩=some v5∧w.cell? ⟨b,6,none⟩=some v6∧w.cell? ⟨b,7,none⟩=some v7∧w.cell? ⟨b,8,none⟩=some v8∧w.cell? ⟨b,9,none⟩=some v9∧w.cell? ⟨b,10,none⟩=some v10∧w.cell? ⟨b,11,none⟩=some v11∧w.cell? ⟨b,12,none⟩=some v12∧w.cell? ⟨b,13,none⟩=some v13∧w.cell? ⟨b,14,none⟩=some v14∧w.cell? ⟨b,15,none⟩=some v15∧b < w.heap.size:=
 ⟨(h.cell 0).trans rfl,(h.cell 1).trans rfl,(h.cell 2).trans rfl,(h.cell 3).trans rfl,(h.cell 4).trans rfl,(h.cell 5).trans rfl,(h.cell 6).trans rfl,(h.cell 7).trans rfl,(h.cell 8).trans rfl,(h.cell 9).trans rfl,(h.cell 10).trans rfl,(h.cell 11).trans rfl,(h.cell 12).trans rfl,(h.cell 13).trans rfl,(h.cell 14).trans rfl,(h.cell 15).trans rfl,h.lt⟩
theorem frees6 {w:World} {b:Nat} {t:TypeId} {cs:Array Value} (h:Blk w b t cs):w.frozen? ⟨b,0,none⟩=false∧w.frozen? ⟨b,1,none⟩=false∧w.frozen? ⟨b,2,none⟩=false∧w.frozen? ⟨b,3,none⟩=false∧w.frozen? ⟨b,4,none⟩=false∧w.frozen? ⟨b,5,none⟩=false:=⟨h.free 0,h.free 1,h.free 2,h.free 3,h.free 4,h.free 5⟩
end Go.Proofs.YtjonaidancomgaaGreatDoor

namespace Go.Proofs.YtjonaidancomgaaGreatDoor
open Go.RowKit

theorem Sx.kidsT_snoc (k:Sx.Rule):∀ ks:List Sx.Rule,Sx.kidsT (ks++[k])=Sx.kidsT ks++(Sx.ruleT k++[Sx.sgT 59])
 | []=>by simp [Sx.kidsT]
 | x::ks=>by rw [List.cons_append,Sx.kidsT,Sx.kidsT,Sx.kidsT_snoc k ks];simp
theorem Sx.kidsT_le {ks:List Sx.Rule} : ∀ {i:Nat} {k:Sx.Rule},ks[i]?=some k→(Sx.kidsT (ks.take i)).length+(Sx.ruleT k).length+1≤(Sx.kidsT ks).length:=by
 induction ks with
 | nil=>intro i k h;simp at h
 | cons x ks ih=>
  intro i k h
  cases i with
  | zero=>simp at h;subst h;simp[Sx.kidsT]
  | succ i=>have:=ih (by simpa using h);simp[Sx.kidsT] at *;omega
theorem word_cell {w:World} {N gi i:Nat} {ws:List (List UInt8)} {x:List UInt8} (h:GlobAt w N gi ws) (hx:ws[i]?=some x) (hN:N≤w.heap.size):∃ b o c,w.cell? ⟨gi,0,none⟩=some (.slice (some ⟨b,o,none⟩) ws.length c)∧w.cell? ⟨b,o+i,none⟩=some (.string (Lx.bs x))∧gi < w.heap.size∧b < w.heap.size:=by
 obtain ⟨b,o,c,h1,h2,h3⟩:=h
 exact ⟨b,o,c,h1,h3.at_ i x hx,by omega,by have:=h3.lt;omega⟩
def RuleLow (g N:Nat) (r:Sx.Rule):Prop:=∀ (cs:List Value) (w:World),EnvS N w→RuleAt w (fun b=>b < g) r cs→RuleSays g w r cs
theorem form_rule_low {w:World} {S:Nat→Prop} {x:Sx.Rule} {cs:List Value} (h:RuleAt w S x cs):∃ v0 v1 v2 v3 v4 A n c,cs = [.int .i64 v0,.int .i64 v1,.string v2,.int .i64 v3,.int .i64 v4,.slice A n c]:=by
 cases x
 rw[RuleAt] at h
 obtain ⟨A,c,rfl,_⟩:=h
 exact ⟨_,_,_,_,_,_,_,_,rfl⟩
theorem low_keep {g:Nat} {w w':World} (hb:Below g w w'):∀ b,b < g→b < g∧∀ i,w'.cell? ⟨b,i,none⟩=w.cell? ⟨b,i,none⟩:=fun b h=>⟨h,fun i=>hb.cell (p:=⟨b,i,none⟩) h⟩
set_option maxRecDepth 20000 in
set_option maxHeartbeats 4000000 in
theorem lRule5 (g N:Nat) (_hN:N≤g) (co n:Int) (nm:List UInt8) (A:Option Addr) (c:Nat) (w:World) (he:EnvS N w) (l:List Lx.Tok) (h:PrSt g l w)
  (hlen:l.length+(Sx.ruleT (.mk 5 co nm n 0 [])).length≤60000) :
  Calls Tryz.prog 58 #[.pointer (some ⟨g,0,none⟩),.agg #[.int .i64 5,.int .i64 co,.string (Lx.bs nm),.int .i64 n,.int .i64 0,.slice A 0 c]] w (TPost g l (Sx.ruleT (.mk 5 co nm n 0 [])) w):=by
 have hT:Sx.ruleT (.mk 5 co nm n 0 [])=Sx.nameT Sx.wPass::(Sx.refT nm co++[Sx.numT n]):=by rw [Sx.ruleT];simp[Sx.ruleWords]
 rw[hT] at hlen ⊢
 have hglt:=h.lt
 obtain ⟨W,hW⟩:∃ W,W=w.alloc (.cells #[.int .i64 5,.int .i64 co,.string (Lx.bs nm),.int .i64 n,.int .i64 0,.slice A 0 c] 38):=⟨_,rfl⟩
 have hbw:Below w.heap.size w W:=by rw [hW];exact (Below.refl _ _).alloc (Nat.le_refl _) _
 have hbx:Blk W w.heap.size 38 #[.int .i64 5,.int .i64 co,.string (Lx.bs nm),.int .i64 n,.int .i64 0,.slice A 0 c]:=by rw [hW];exact Blk.new _ _ _
 have hpi:PI g l W W:=PI.start (h.next hbw)
 have heW:=he.next hbw
 obtain ⟨wb,wo,wc,gl,wl,gl1,wl1⟩:=word_cell (i:=4) (x:=Sx.wPass) he.rule rfl he.size
 have hw9:Sx.ruleWords.length=9:=rfl
 rw[hw9] at gl
 try rw [Nat.add_zero] at wl
 have H:=Lh hpi;have Hbw:=Lh hbw;have Hbx:=Lh hbx
 have hWs:W.heap.size=w.heap.size+1:=by rw [hW];simp
 clear h he hpi hbw hbx heW hw9 hT
 go_enter Tryz.func58,Tryz.ntmps58
 go_wp2_with fail
 rw[←hW]
 refine (H.out.put [.name Sx.wPass] (ts:=[Sx.nameT Sx.wPass]) hWs.symm rfl rfl rfl (by simp) (by simp at hlen ⊢;omega) (by simp)).mono ?_
 rintro e w1 ⟨rfl,h1⟩
 have H1:=Lh h1
 obtain ⟨x0,x1,x2,x3,x4,x5,z1⟩:=cells6 (h1.blk Hbx.out (by decide) (by decide))
 clear h1
 go_wp2_with fail
 refine (H1.out.ref nm co (by simp at hlen ⊢;omega)).mono ?_
 rintro e w2 ⟨rfl,h2⟩
 have H2:=Lh h2
 obtain ⟨x0,x1,x2,x3,x4,x5,z2⟩:=cells6 (h2.blk Hbx.out (by decide) (by decide))
 clear h2
 go_wp2_with fail
 refine (H2.out.put [.num n] (ts:=[Sx.numT n]) rfl rfl rfl rfl (by simp) (by simp at hlen ⊢;omega) (by simp)).mono ?_
 rintro e w3 ⟨rfl,h3⟩
 have H3:=Lh h3
 obtain ⟨x0,x1,x2,x3,x4,x5,z3⟩:=cells6 (h3.blk Hbx.out (by decide) (by decide))
 clear h3
 go_wp2_with fail
 go_end0
 exact ⟨rfl,by have:=H3.out.st;simpa [Sx.nameT,Sx.numT,Sx.sgT,Sx.ratioT] using this,(Hbw.out.mono (by omega)).trans H3.out.bel,(KP.below Hbw.out).trans H3.out.kp⟩
set_option maxRecDepth 20000 in
set_option maxHeartbeats 4000000 in
theorem lRule1 (g N:Nat) (_hN:N≤g) (ks:List Sx.Rule) (hks:∀ k∈ks,RuleLow g N k) (m:Nat) (hm:m=ks.length) (hm2:m≤200) (A:Option Addr) (c:Nat) (w:World) (he:EnvS N w) (hA:KidsAt w (fun b=>b < g) A 0 ks) (l:List Lx.Tok) (h:PrSt g l w)
  (hlen:l.length+(Sx.ruleT (.mk 1 0 [] 0 0 ks)).length≤60000) :
  Calls Tryz.prog 58 #[.pointer (some ⟨g,0,none⟩),.agg #[.int .i64 1,.int .i64 0,.string (Lx.bs []),.int .i64 0,.int .i64 0,.slice A m c]] w (TPost g l (Sx.ruleT (.mk 1 0 [] 0 0 ks)) w):=by
 have hT:Sx.ruleT (.mk 1 0 [] 0 0 ks)=Sx.nameT Sx.wAll::(Sx.sgT 123::(Sx.kidsT ks++[Sx.sgT 125])):=by rw [Sx.ruleT];simp[Sx.ruleWords]
 rw[hT] at hlen ⊢
 have hglt:=h.lt
 obtain ⟨W,hW⟩:∃ W,W=w.alloc (.cells #[.int .i64 1,.int .i64 0,.string (Lx.bs []),.int .i64 0,.int .i64 0,.slice A m c] 38):=⟨_,rfl⟩
 have hbw:Below w.heap.size w W:=by rw [hW];exact (Below.refl _ _).alloc (Nat.le_refl _) _
 have hbx:Blk W w.heap.size 38 #[.int .i64 1,.int .i64 0,.string (Lx.bs []),.int .i64 0,.int .i64 0,.slice A m c]:=by rw [hW];exact Blk.new _ _ _
 have hpi:PI g l W W:=PI.start (h.next hbw)
 have heW:=he.next hbw
 obtain ⟨wb,wo,wc,gl,wl,gl1,wl1⟩:=word_cell (i:=0) (x:=Sx.wAll) he.rule rfl he.size
 have hw9:Sx.ruleWords.length=9:=rfl
 rw[hw9] at gl
 try rw [Nat.add_zero] at wl
 have H:=Lh hpi;have Hbw:=Lh hbw;have Hbx:=Lh hbx
 have hWs:W.heap.size=w.heap.size+1:=by rw [hW];simp
 have Hsay:Hid (∀ i k,ks[i]?=some k→∃ bk okk v0 v1 v2 v3 v4 kA kn kc,A=some ⟨bk,okk,none⟩∧RuleSays g W k [.int .i64 v0,.int .i64 v1,.string v2,.int .i64 v3,.int .i64 v4,.slice kA kn kc]∧
   ∀ W',Below g W W'→W'.cell? ⟨bk,okk+i*6,none⟩=some (.int .i64 v0)∧W'.cell? ⟨bk,okk+i*6+1,none⟩=some (.int .i64 v1)∧W'.cell? ⟨bk,okk+i*6+2,none⟩=some (.string v2)∧W'.cell? ⟨bk,okk+i*6+3,none⟩=some (.int .i64 v3)∧W'.cell? ⟨bk,okk+i*6+4,none⟩=some (.int .i64 v4)∧W'.cell? ⟨bk,okk+i*6+5,none⟩=some (.slice kA kn kc)):=Lh (fun i k hi=>by
  obtain ⟨bk,okk,csk,e,hSk,hrk,hck⟩:=hA.get i k hi
  have hsay:=hks k (List.mem_of_getElem? hi) csk W heW (RuleAt.keep (low_keep (hbw.mono (by omega))) _ _ hrk)
  obtain ⟨v0,v1,v2,v3,v4,kA,kn,kc,rfl⟩:=form_rule_low hrk
  have key:∀ j v,[Value.int .i64 v0,.int .i64 v1,.string v2,.int .i64 v3,.int .i64 v4,.slice kA kn kc][j]?=some v→∀ W',Below g W W'→W'.cell? ⟨bk,okk+i*6+j,none⟩=some v:=fun j v hj W' hb=>by
   have e1:=hck j v hj
   rw[Nat.zero_add] at e1
   exact ((hb.cell (p:=⟨bk,_,none⟩) hSk).trans (hbw.cell (p:=⟨bk,_,none⟩) (show bk < w.heap.size by omega))).trans e1
  exact ⟨bk,okk,v0,v1,v2,v3,v4,kA,kn,kc,e,hsay,fun W' hb=>⟨key 0 _ rfl W' hb,key 1 _ rfl W' hb,key 2 _ rfl W' hb,key 3 _ rfl W' hb,key 4 _ rfl W' hb,key 5 _ rfl W' hb⟩⟩)
 have Hm:=Lh hm
 clear h he hpi hbw hbx heW hw9 hT hks hA hm
 go_enter Tryz.func58,Tryz.ntmps58
 go_wp2_with fail
 rw[←hW]
 refine (H.out.put [.name Sx.wAll] (ts:=[Sx.nameT Sx.wAll]) hWs.symm rfl rfl rfl (by simp) (by simp at hlen ⊢;omega) (by simp)).mono ?_
 rintro e w1 ⟨rfl,h1⟩
 have H1:=Lh h1
 obtain ⟨x0,x1,x2,x3,x4,x5,z1⟩:=cells6 (h1.blk Hbx.out (by decide) (by decide))
 clear h1
 go_wp2_with fail
 refine (H1.out.put [.sign [123]] (ts:=[Sx.sgT 123]) rfl rfl rfl rfl (by simp) (by simp at hlen ⊢;omega) (by simp)).mono ?_
 rintro e w2 ⟨rfl,h2⟩
 have H2:=Lh h2
 obtain ⟨x0,x1,x2,x3,x4,x5,z2⟩:=cells6 (h2.blk Hbx.out (by decide) (by decide))
 clear h2
 go_wp2_with fail
 have Hst:Hid (PI g (l++([Sx.nameT Sx.wAll,Sx.sgT 123]++Sx.kidsT (ks.take 0))) W w2):=Lh (by have:=H2.out;simpa [Sx.kidsT,Sx.nameT,Sx.sgT,Sx.numT] using this)
 go_loopg [83] m (fun gk v83 wr=>∃ i:Nat,v83 = .int .i64 i∧i+gk=m∧Hid (PI g (l++([Sx.nameT Sx.wAll,Sx.sgT 123]++Sx.kidsT (ks.take i))) W wr))
 case atStart=>exact ⟨0,rfl,by omega,Hst⟩
 case round=>
  obtain ⟨i,rfl,hi,HP⟩:=hrel
  have hgr:=HP.out.st.lt
  by_cases hlt:i < m
  ·obtain ⟨k,hk⟩:∃ k,ks[i]?=some k:=⟨_,List.getElem?_eq_getElem (by have:=Hm.out;omega)⟩
   obtain ⟨bk,okk,v0,v1,v2,v3,v4,kA,kn,kc,rfl,hsay,hck⟩:=Hsay.out i k hk
   obtain ⟨k0,k1,k2,k3,k4,k5⟩:=hck wr HP.out.bel
   have Hs:=Lh hsay;have Hk:=Lh hk
   have hkl:l.length+(Sx.kidsT (ks.take i)).length+(Sx.ruleT k).length+4≤60000:=by have:=Sx.kidsT_le hk;simp at hlen;omega
   clear hsay hck hk
   go_wp2_with fail
   have hPn:=HP.out.next ((Below.refl _ _).alloc (Nat.le_refl _) (.cells #[.int .i64 v0,.int .i64 v1,.string v2,.int .i64 v3,.int .i64 v4,.slice kA kn kc] 38))
   refine (hPn.put [.rule k [.int .i64 v0,.int .i64 v1,.string v2,.int .i64 v3,.int .i64 v4,.slice kA kn kc],.sign [59]] (ts:=Sx.ruleT k++[Sx.sgT 59]) (by simp) rfl rfl rfl (by simp) (by simp;omega) (fun r c hr=>by
    simp only[List.mem_cons,PrIt.rule.injEq,List.not_mem_nil,or_false,reduceCtorEq] at hr
    rw[hr.1,hr.2];exact Hs.out)).mono ?_
   rintro e w9 ⟨rfl,h9⟩
   have H9:=Lh h9
   clear h9 hPn
   go_wp2_with fail
   go_roundg (gk - 1)
   all_goals first
    | omega
    | exact ⟨i+1,by go_num,by omega,Lh (by
      have:=H9.out
      rw[List.take_add_one,Hk.out]
      simp only[Option.toList_some,Sx.kidsT_snoc]
      simpa using this)⟩
  ·obtain rfl:i=m:=by omega
   go_wp2_with fail
   refine (HP.out.put [.sign [125]] (ts:=[Sx.sgT 125]) rfl rfl rfl rfl (by simp) (by rw [Hm.out,List.take_length];simp at hlen ⊢;omega) (by simp)).mono ?_
   rintro e w9 ⟨rfl,h9⟩
   have H9:=Lh h9
   clear h9
   go_wp2_with fail
   go_end0
   exact ⟨rfl,by have:=H9.out.st;rw[Hm.out,List.take_length] at this;simpa [Sx.nameT,Sx.numT,Sx.sgT] using this,(Hbw.out.mono (by omega)).trans H9.out.bel,(KP.below Hbw.out).trans H9.out.kp⟩
end Go.Proofs.YtjonaidancomgaaGreatDoor
