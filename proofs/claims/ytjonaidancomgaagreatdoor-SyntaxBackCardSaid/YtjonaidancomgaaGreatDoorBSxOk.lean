/- Parts of the proof, joined into one text: SxOk, SxPut, LxTake, SxJoin, SxRd. -/
import Derived.Test.YtjonaidancomgaaGreatDoorBSxParB
import Derived.Test.YtjonaidancomgaaGreatDoorBSxEqs
import Derived.Deep.AppendLies
import Derived.Deep.RegionWith
import Derived.StillTailTactics
import Derived.Test.YtjonaidancomgaaGreatDoorBSxCata
import Derived.Test.YtjonaidancomgaaGreatDoorBSxEq
import Derived.Test.YtjonaidancomgaaGreatDoorBSxLen

namespace Go.Proofs.YtjonaidancomgaaGreatDoor
open Go.RowKit

theorem sIn (n a b:Int) (w:World):Calls Tryz.prog 119 #[.int .i64 n,.int .i64 a,.int .i64 b] w (BoolPost (Sx.inB n a b) w):=by
 by_cases h:a≤n
 ·go_enter Tryz.func119,Tryz.ntmps119
  go_wp2
  go_ret
  exact ⟨ret_bool (by simp [Sx.inB,h]),Below.refl _ _⟩
 ·go_enter Tryz.func119,Tryz.ntmps119
  go_wp2
  go_ret
  exact ⟨ret_bool (by simp [Sx.inB];omega),Below.refl _ _⟩
theorem sNameB (x:List UInt8) (w:World) (hx:x.length≤140737488351232):Calls Tryz.prog 118 #[.string (Lx.bs x)] w (BoolPost (Lx.isName x) w):=
 (lName (Lx.bs x) w (by rw [Lx.bs_size];unfold maxLen;omega)).mono fun e w' ⟨h1,h2⟩=>by
  rw[Lx.bs_list] at h1
  subst h2
  exact ⟨h1,Below.refl _ _⟩
set_option maxRecDepth 20000 in
set_option maxHeartbeats 1000000 in
theorem sRefOk (x:List UInt8) (n:Int) (w:World) (hx:x.length≤140737488351232):Calls Tryz.prog 116 #[.string (Lx.bs x),.int .i64 n] w (BoolPost (Sx.refOk x n) w):=by
 have H1:=Lh (fun W=>sIn n 0 4095 W)
 have H2:=Lh (fun W=>sNameB x W hx)
 obtain ⟨R,hR⟩:∃ R,R=Sx.refOk x n:=⟨_,rfl⟩
 rw[←hR]
 unfold Sx.refOk at hR
 have hbs:((Lx.bs x).toList == (⟨#[]⟩:ByteArray).toList)=x.isEmpty:=by rw [ByteArray.toList_eq,ByteArray.toList_eq,Lx.bs_list];cases x <;> rfl
 have hbs2:(Lx.bs x).toList.isEmpty=x.isEmpty:=by rw [ByteArray.toList_eq,Lx.bs_list]
 cases q1:Sx.inB n 0 4095 with
 | false=>
  rw[q1] at H1 hR
  have HR:Hid (R=false):=Lh (by rw [hR];rfl)
  clear hR
  go_enter Tryz.func116,Tryz.ntmps116
  go_wp2_with fail
  refine (H1.out _).mono ?_
  rintro e w1 ⟨rfl,hb1⟩
  have HB1:=Lh hb1
  clear hb1
  go_wp2_with fail
  go_ret
  exact ⟨ret_bool HR.out.symm,HB1.out⟩
 | true=>
  rw[q1] at H1 hR
  cases q2:x.isEmpty with
  | true=>
   rw[q2] at hbs hbs2 hR
   have HR:Hid (R=true):=Lh (by rw [hR];rfl)
   clear hR
   go_enter Tryz.func116,Tryz.ntmps116
   go_wp2_with fail
   refine (H1.out _).mono ?_
   rintro e w1 ⟨rfl,hb1⟩
   have HB1:=Lh hb1
   clear hb1
   go_wp2_with fail
   go_ret
   exact ⟨ret_bool HR.out.symm,HB1.out⟩
  | false=>
   rw[q2] at hbs hbs2 hR
   have HR:=Lh hR
   clear hR
   go_enter Tryz.func116,Tryz.ntmps116
   go_wp2_with fail
   refine (H1.out _).mono ?_
   rintro e w1 ⟨rfl,hb1⟩
   have HB1:=Lh hb1
   clear hb1
   go_wp2_with fail
   refine (H2.out _).mono ?_
   rintro e w2 ⟨rfl,hb2⟩
   have HB2:=Lh (HB1.out.trans (hb2.mono HB1.out.size))
   clear hb2
   go_wp2_with fail
   go_ret
   exact ⟨ret_bool (by rw [HR.out];rfl),HB2.out⟩

def IntPost (z:Int) (w:World) (e:Ending) (w':World):Prop:=e = .returned (.int .i64 z)∧Below w.heap.size w w'
def Sx.Ratio.chk (r:Sx.Ratio):Bool:=decide (1≤r.den) && decide (r.den≤1073741824) && decide (-1073741824≤r.num) && decide (r.num≤1073741824) && decide (Int.gcd r.num r.den=1)
set_option maxRecDepth 20000 in
set_option maxHeartbeats 2000000 in
theorem sChk (n d:Int) (w:World):Calls Tryz.prog 193 #[.agg #[.int .i64 n,.int .i64 d]] w (IntPost (if Sx.Ratio.chk ⟨n,d⟩ then 0 else 50) w):=by
 obtain ⟨E,hE⟩:∃ E:Int,E=if Sx.Ratio.chk ⟨n,d⟩ then 0 else 50:=⟨_,rfl⟩
 rw[←hE]
 obtain ⟨R,hR⟩:∃ R,R=Sx.Ratio.chk ⟨n,d⟩:=⟨_,rfl⟩
 rw[←hR] at hE
 have HE:=Lh hE
 clear hE
 unfold Sx.Ratio.chk at hR
 simp only at hR
 have hb0:Below w.heap.size w (w.alloc (.cells #[.int .i64 n,.int .i64 d] 75)):=(Below.refl _ _).alloc (Nat.le_refl _) _
 have HB0:=Lh hb0
 clear hb0
 by_cases g1:1≤d
 case neg=>
  have HR:Hid (R=false):=Lh (by rw [hR];simp[g1])
  have q1:decide (d < 1)=true:=decide_eq_true (by omega)
  clear hR g1
  go_enter Tryz.func193,Tryz.ntmps193
  go_wp2_with fail
  go_ret
  exact ⟨ret_int (by rw [HE.out,HR.out];rfl),HB0.out⟩
 have q1:decide (d < 1)=false:=decide_eq_false (by omega)
 by_cases g2:d≤1073741824
 case neg=>
  have HR:Hid (R=false):=Lh (by rw [hR];simp[g2])
  have q2:decide (1073741824 < d)=true:=decide_eq_true (by omega)
  clear hR g2 g1
  go_enter Tryz.func193,Tryz.ntmps193
  go_wp2_with fail
  go_ret
  exact ⟨ret_int (by rw [HE.out,HR.out];rfl),HB0.out⟩
 have q2:decide (1073741824 < d)=false:=decide_eq_false (by omega)
 by_cases g3:-1073741824≤n
 case neg=>
  have HR:Hid (R=false):=Lh (by rw [hR];simp[g3])
  have q3:decide (n < -1073741824)=true:=decide_eq_true (by omega)
  clear hR g3 g2 g1
  go_enter Tryz.func193,Tryz.ntmps193
  go_wp2_with fail
  go_ret
  exact ⟨ret_int (by rw [HE.out,HR.out];rfl),HB0.out⟩
 have q3:decide (n < -1073741824)=false:=decide_eq_false (by omega)
 by_cases g4:n≤1073741824
 case neg=>
  have HR:Hid (R=false):=Lh (by rw [hR];simp[g4])
  have q4:decide (1073741824 < n)=true:=decide_eq_true (by omega)
  clear hR g4 g3 g2 g1
  go_enter Tryz.func193,Tryz.ntmps193
  go_wp2_with fail
  go_ret
  exact ⟨ret_int (by rw [HE.out,HR.out];rfl),HB0.out⟩
 have q4:decide (1073741824 < n)=false:=decide_eq_false (by omega)
 have H1:=Lh (fun W=>sCommon n d g3 g4 (by omega) g2 W)
 obtain ⟨g,hg⟩:∃ g,g=Int.gcd n d:=⟨_,rfl⟩
 rw[←hg] at H1 hR
 cases q5:((g:Int) != 1) with
 | true=>
  have HR:Hid (R=false):=Lh (by rw [hR];have:¬ g=1:=(by intro e;rw[e] at q5;simp at q5);simp[this])
  clear hR g4 g3 g2 g1 hg
  go_enter Tryz.func193,Tryz.ntmps193
  go_wp2_with fail
  refine (H1.out _).mono ?_
  rintro e w1 ⟨rfl,hb1⟩
  have HB1:=Lh (HB0.out.trans (hb1.mono HB0.out.size))
  clear hb1
  go_wp2_with fail
  go_ret
  exact ⟨ret_int (by rw [HE.out,HR.out];rfl),HB1.out⟩
 | false=>
  have HR:Hid (R=true):=Lh (by rw [hR];have h:(g:Int)=1:=(by simpa using q5);have:g=1:=(by omega);simp[this,g1,g2,g3,g4])
  clear hR g4 g3 g2 g1 hg
  go_enter Tryz.func193,Tryz.ntmps193
  go_wp2_with fail
  refine (H1.out _).mono ?_
  rintro e w1 ⟨rfl,hb1⟩
  have HB1:=Lh (HB0.out.trans (hb1.mono HB0.out.size))
  clear hb1
  go_wp2_with fail
  go_ret
  exact ⟨ret_int (by rw [HE.out,HR.out];rfl),HB1.out⟩

theorem Sx.fine_chk (n d:Int):Sx.Ratio.fine ⟨n,d⟩=(Sx.Ratio.chk ⟨n,d⟩ && (decide (0≤n) && (decide (d≤1000) && decide (n≤12*d)))):=by
 unfold Sx.Ratio.fine Sx.Ratio.chk
 rw[Bool.eq_iff_iff]
 simp only[Bool.and_eq_true,decide_eq_true_eq]
 constructor
 ·rintro ⟨⟨⟨⟨h1,h2⟩,h3⟩,h4⟩,h5⟩
  refine ⟨⟨⟨⟨⟨h1,?_⟩,?_⟩,?_⟩,h5⟩,h3,h2,h4⟩ <;> omega
 ·rintro ⟨⟨⟨⟨⟨h1,_⟩,_⟩,_⟩,h5⟩,h3,h2,h4⟩
  exact ⟨⟨⟨⟨h1,h2⟩,h3⟩,h4⟩,h5⟩
set_option maxRecDepth 20000 in
set_option maxHeartbeats 2000000 in
theorem sFine (n d:Int) (w:World):Calls Tryz.prog 146 #[.agg #[.int .i64 n,.int .i64 d]] w (BoolPost (Sx.Ratio.fine ⟨n,d⟩) w):=by
 obtain ⟨R,hR⟩:∃ R,R=Sx.Ratio.fine ⟨n,d⟩:=⟨_,rfl⟩
 rw[←hR]
 rw[Sx.fine_chk] at hR
 have H1:=Lh (fun W=>sChk n d W)
 have hb0:Below w.heap.size w (w.alloc (.cells #[.int .i64 n,.int .i64 d] 75)):=(Below.refl _ _).alloc (Nat.le_refl _) _
 have e0:Blk (w.alloc (.cells #[.int .i64 n,.int .i64 d] 75)) w.heap.size 75 #[.int .i64 n,.int .i64 d]:=Blk.new _ _ _
 have HB0:=Lh hb0
 have E0:=Lh e0
 clear hb0 e0
 cases g0:Sx.Ratio.chk ⟨n,d⟩ with
 | false=>
  rw[g0] at hR H1
  have HR:Hid (R=false):=Lh (by rw [hR];rfl)
  clear hR
  simp only[Bool.false_eq_true,if_false] at H1
  go_enter Tryz.func146,Tryz.ntmps146
  go_wp2_with fail
  refine (H1.out _).mono ?_
  rintro e w1 ⟨rfl,hb1⟩
  have HB1:=Lh (HB0.out.trans (hb1.mono HB0.out.size))
  clear hb1
  go_wp2_with fail
  go_ret
  exact ⟨ret_bool HR.out.symm,HB1.out⟩
 | true=>
 have hk:=g0
 unfold Sx.Ratio.chk at hk
 simp only[Bool.and_eq_true,decide_eq_true_eq] at hk
 obtain ⟨⟨⟨⟨k1,k2⟩,k3⟩,k4⟩,-⟩:=hk
 rw[g0] at hR H1
 simp only[if_true] at H1
 rw[Bool.true_and] at hR
 by_cases g1:0≤n
 case neg=>
  have HR:Hid (R=false):=Lh (by rw [hR];simp[g1])
  clear hR
  go_enter Tryz.func146,Tryz.ntmps146
  go_wp2_with fail
  refine (H1.out _).mono ?_
  rintro e w1 ⟨rfl,hb1⟩
  have HB1:=Lh (HB0.out.trans (hb1.mono HB0.out.size))
  have b1:=E0.out.below hb1 E0.out.lt
  have x0:=b1.cell 0;have x1:=b1.cell 1
  simp at x0 x1
  have q1:decide (0≤n)=false:=decide_eq_false (by omega)
  clear hb1 b1 g1
  go_wp2_with fail
  go_ret
  exact ⟨ret_bool HR.out.symm,HB1.out⟩
 by_cases g2:d≤1000
 case neg=>
  have HR:Hid (R=false):=Lh (by rw [hR];simp[g2])
  clear hR
  go_enter Tryz.func146,Tryz.ntmps146
  go_wp2_with fail
  refine (H1.out _).mono ?_
  rintro e w1 ⟨rfl,hb1⟩
  have HB1:=Lh (HB0.out.trans (hb1.mono HB0.out.size))
  have b1:=E0.out.below hb1 E0.out.lt
  have x0:=b1.cell 0;have x1:=b1.cell 1
  simp at x0 x1
  have q1:decide (0≤n)=true:=decide_eq_true g1
  have q2:decide (d≤1000)=false:=decide_eq_false (by omega)
  clear hb1 b1 g2
  go_wp2_with fail
  go_ret
  exact ⟨ret_bool HR.out.symm,HB1.out⟩
 have HR:Hid (R=decide (n≤12*d)):=Lh (by rw [hR];simp[g1,g2])
 have hw:IntKind.i64.wrap (12*d)=12*d:=IntWalk.i64_in _ (by omega)
 clear hR
 go_enter Tryz.func146,Tryz.ntmps146
 go_wp2_with fail
 refine (H1.out _).mono ?_
 rintro e w1 ⟨rfl,hb1⟩
 have HB1:=Lh (HB0.out.trans (hb1.mono HB0.out.size))
 have b1:=E0.out.below hb1 E0.out.lt
 have x0:=b1.cell 0;have x1:=b1.cell 1
 simp at x0 x1
 have q1:decide (0≤n)=true:=decide_eq_true g1
 have q2:decide (d≤1000)=true:=decide_eq_true g2
 clear hb1 b1
 go_wp2_with fail
 go_ret
 exact ⟨ret_bool HR.out.symm,HB1.out⟩
end Go.Proofs.YtjonaidancomgaaGreatDoor

namespace Go.Proofs.YtjonaidancomgaaGreatDoor
open Go.RowKit

def PrSt (g:Nat) (l:List Lx.Tok) (w:World):Prop:=∃ vT,Blk w g 110 #[vT]∧w.ownsRow g 55 4 vT l.length (l.flatMap Lx.Tok.cells)
structure KP (w w' : World) : Prop where
 size:w.heap.size≤w'.heap.size
 keep:∀ (k:Nat) (o:Obj),w.heap[k]?=some o→(∀ cs t fr,o = .cells cs t fr→t≠55∧t≠110)→w'.heap[k]?=some o
theorem KP.refl (w:World):KP w w:=⟨Nat.le_refl _,fun _ _ h _=>h⟩
theorem KP.trans {a b c:World} (h:KP a b) (k:KP b c):KP a c:=⟨Nat.le_trans h.size k.size,fun i o hi ho=>k.keep i o (h.keep i o hi ho) ho⟩
theorem KP.below {w w':World} (h:Below w.heap.size w w'):KP w w':=⟨h.size,fun k _ hk _=>(h.block k (Array.getElem?_eq_some_iff.1 hk).1).trans hk⟩
theorem KP.blk {w w':World} (h:KP w w') {b:Nat} {t:TypeId} {cs:Array Value} (hb:Blk w b t cs) (h1:t≠55) (h2:t≠110):Blk w' b t cs:=
 h.keep b _ hb (fun _ _ _ e=>by injection e with _ e _;subst e;exact ⟨h1,h2⟩)
theorem KP.set {w w':World} (h:KP w w') {b i:Nat} (hb:w.heap.size≤b) (u:Value):KP w (w'.setCell ⟨b,i,none⟩ u):=
 ⟨by simpa [World.setCell] using h.size,fun k o hk ho=>(Below.heap_setCell w' ⟨b,i,none⟩ u k (fun e=>by have:=(Array.getElem?_eq_some_iff.1 hk).1;have e:k=b:=e;omega)).trans (h.keep k o hk ho)⟩
theorem PrSt.lt {g:Nat} {l:List Lx.Tok} {w:World} (h:PrSt g l w):g < w.heap.size:=by
 obtain ⟨vT,h1,_⟩:=h
 exact h1.lt
theorem PrSt.next {g:Nat} {l:List Lx.Tok} {w w':World} (h:PrSt g l w) (hb:Below w.heap.size w w'):PrSt g l w':=by
 obtain ⟨vT,h1,h3⟩:=h
 exact ⟨vT,h1.below hb h1.lt,own_below h3 hb⟩
theorem pr_grow {g gg cap:Nat} {vT:Value} {l:List Lx.Tok} {x:Lx.Tok} {w w1 w3:World} (hb:Blk w g 110 #[vT])
  (hown:w.ownsRow g 55 4 vT l.length (l.flatMap Lx.Tok.cells)) (h1:Below w.heap.size w w1) (hgrow:w1.grownBy w3 vT.ownBlock)
  (hown3:w3.ownsRow g 55 4 (.slice (some ⟨gg,0,none⟩) (l.length+1) cap) (l.length+1) (l.flatMap Lx.Tok.cells++x.cells)) :
  Blk w3 g 110 #[vT]∧PrSt g (l++[x]) (w3.setCell ⟨g,0,none⟩ (.slice (some ⟨gg,0,none⟩) (l.length+1) cap))∧
  Below g w (w3.setCell ⟨g,0,none⟩ (.slice (some ⟨gg,0,none⟩) (l.length+1) cap))∧KP w (w3.setCell ⟨g,0,none⟩ (.slice (some ⟨gg,0,none⟩) (l.length+1) cap)):=by
 have hlt:=hb.lt
 have hne:=own_ne hown hb (by decide)
 have hb1:=hb.below h1 hlt
 have hb3:Blk w3 g 110 #[vT]:=(hgrow.block g hb1.lt (fun e=>hne e.symm)).trans hb1
 have hbel:Below g w w3:=Below.grown (h1.mono (by omega)) hgrow (by have:=h1.size;omega) (fun k hk=>own_ge hown hk)
 refine ⟨hb3,⟨_,by have:=hb3.set 0 (.slice (some ⟨gg,0,none⟩) (l.length+1) cap);simpa using this,?_⟩,hbel.setCell (p:=⟨g,0,none⟩) (Nat.le_refl _) _,?_⟩
 ·rw[List.length_append,List.flatMap_append]
  have:[x].flatMap Lx.Tok.cells=x.cells:=by simp
  rw[this]
  exact own_setCell_far hown3 (own_ne hown3 hb3 (by decide)) _
 ·refine ⟨by have:=h1.size;have:=hgrow.size;simp[World.setCell];omega,fun k o hk ho=>?_⟩
  have hkl:=(Array.getElem?_eq_some_iff.1 hk).1
  have hk1:=(h1.block k hkl).trans hk
  have hgk:k≠g:=fun e=>by
   subst e
   unfold Blk at hb
   rw[hk] at hb
   injection hb with hb
   exact (ho _ _ _ hb).2 rfl
  rw[Below.heap_setCell w3 ⟨g,0,none⟩ _ k hgk]
  refine (hgrow.block k (Array.getElem?_eq_some_iff.1 hk1).1 (fun e=>?_)).trans hk1
  rcases hown.2 with ⟨rfl,_⟩ | ⟨g',cap',cur',rfl,_,hh',_⟩
  ·simp[Value.ownBlock] at e
  ·have:k=g':=by simpa [Value.ownBlock] using e
   subst this
   rw[hk] at hh'
   injection hh' with hh'
   exact (ho _ _ _ hh').1 rfl

def TPost (g:Nat) (l ts:List Lx.Tok) (w:World) (e:Ending) (w':World):Prop:=
 e = .returned (.tuple #[])∧PrSt g (l++ts) w'∧Below g w w'∧KP w w'

inductive PrIt where
 | name (t:List UInt8)
 | sign (t:List UInt8)
 | num (n:Int)
 | ratio (r:Sx.Ratio)
 | rule (r:Sx.Rule) (cs:List Value)
def PrIt.val:PrIt→Value
 | .name t=>.iface 9 (.string (Lx.bs t))
 | .sign t=>.iface 114 (.string (Lx.bs t))
 | .num n=>.iface 3 (.int .i64 n)
 | .ratio r=>.iface 75 (.agg #[.int .i64 r.num,.int .i64 r.den])
 | .rule _ cs=>.iface 38 (.agg cs.toArray)
def PrIt.toks:PrIt→List Lx.Tok
 | .name t=>[⟨1,t,0,0⟩]
 | .sign t=>[⟨3,t,0,0⟩]
 | .num n=>[⟨2,[],n,0⟩]
 | .ratio r=>Sx.ratioT r
 | .rule r _=>Sx.ruleT r
def PrIt.flat:PrIt→Prop
 | .ratio _=>False
 | .rule _ _=>False
 | _=>True
theorem under_printer:Tryz.prog.underlying 110=some (.slice 55):=by kernel_rfl
-- the assertions of put's switch
theorem as_str (x:ByteArray) (w:World):(Instr.typeAssert (.iface 9 (.string x)) 20 9 true).run Tryz.prog w = .ok (.tuple #[.string x,.bool true]) w:=by kernel_rfl
theorem as_str_sg (x:ByteArray) (w:World):(Instr.typeAssert (.iface 114 (.string x)) 20 9 true).run Tryz.prog w = .ok (.tuple #[.string ⟨#[]⟩,.bool false]) w:=by kernel_rfl
theorem as_str_int (x:Int) (w:World):(Instr.typeAssert (.iface 3 (.int .i64 x)) 20 9 true).run Tryz.prog w = .ok (.tuple #[.string ⟨#[]⟩,.bool false]) w:=by kernel_rfl
theorem as_str_rat (v:Value) (w:World):(Instr.typeAssert (.iface 75 v) 20 9 true).run Tryz.prog w = .ok (.tuple #[.string ⟨#[]⟩,.bool false]) w:=by kernel_rfl
theorem as_str_rul (v:Value) (w:World):(Instr.typeAssert (.iface 38 v) 20 9 true).run Tryz.prog w = .ok (.tuple #[.string ⟨#[]⟩,.bool false]) w:=by kernel_rfl
theorem as_sg (x:ByteArray) (w:World):(Instr.typeAssert (.iface 114 (.string x)) 20 114 true).run Tryz.prog w = .ok (.tuple #[.string x,.bool true]) w:=by kernel_rfl
theorem as_sg_int (x:Int) (w:World):(Instr.typeAssert (.iface 3 (.int .i64 x)) 20 114 true).run Tryz.prog w = .ok (.tuple #[.string ⟨#[]⟩,.bool false]) w:=by kernel_rfl
theorem as_sg_rat (v:Value) (w:World):(Instr.typeAssert (.iface 75 v) 20 114 true).run Tryz.prog w = .ok (.tuple #[.string ⟨#[]⟩,.bool false]) w:=by kernel_rfl
theorem as_sg_rul (v:Value) (w:World):(Instr.typeAssert (.iface 38 v) 20 114 true).run Tryz.prog w = .ok (.tuple #[.string ⟨#[]⟩,.bool false]) w:=by kernel_rfl
theorem as_int (x:Int) (w:World):(Instr.typeAssert (.iface 3 (.int .i64 x)) 20 3 true).run Tryz.prog w = .ok (.tuple #[.int .i64 x,.bool true]) w:=by kernel_rfl
theorem as_int_rat (v:Value) (w:World):(Instr.typeAssert (.iface 75 v) 20 3 true).run Tryz.prog w = .ok (.tuple #[.int .i64 0,.bool false]) w:=by kernel_rfl
theorem as_int_rul (v:Value) (w:World):(Instr.typeAssert (.iface 38 v) 20 3 true).run Tryz.prog w = .ok (.tuple #[.int .i64 0,.bool false]) w:=by kernel_rfl
theorem as_rat (v:Value) (w:World):(Instr.typeAssert (.iface 75 v) 20 75 true).run Tryz.prog w = .ok (.tuple #[v,.bool true]) w:=by kernel_rfl
theorem as_rat_rul (v:Value) (w:World):(Instr.typeAssert (.iface 38 v) 20 75 true).run Tryz.prog w = .ok (.tuple #[.agg #[.int .i64 0,.int .i64 0],.bool false]) w:=by kernel_rfl
theorem as_rul (v:Value) (w:World):(Instr.typeAssert (.iface 38 v) 20 38 true).run Tryz.prog w = .ok (.tuple #[v,.bool true]) w:=by kernel_rfl

def PutFlat (g:Nat):Prop:=∀ (its:List PrIt) (l:List Lx.Tok) (b:Nat) (W:World),(∀ j∈its,j.flat)→PrSt g l W→Blk W b 20 (its.map PrIt.val).toArray→its.length≤100→l.length+(its.flatMap PrIt.toks).length≤60000→
 Calls Tryz.prog 50 #[.pointer (some ⟨g,0,none⟩),.slice (some ⟨b,0,none⟩) its.length its.length] W (TPost g l (its.flatMap PrIt.toks) W)
def RuleSays (g:Nat) (w:World) (r:Sx.Rule) (cs:List Value):Prop:=(∃ v0 v1 v2 v3 v4 A n c,cs = [.int .i64 v0,.int .i64 v1,.string v2,.int .i64 v3,.int .i64 v4,.slice A n c])∧
 ∀ (l:List Lx.Tok) (W:World),PrSt g l W→Below g w W→l.length+(Sx.ruleT r).length≤60000→Calls Tryz.prog 58 #[.pointer (some ⟨g,0,none⟩),.agg cs.toArray] W (TPost g l (Sx.ruleT r) W)

set_option maxRecDepth 20000 in
set_option maxHeartbeats 4000000 in
theorem lPutG (g:Nat) (its:List PrIt) (l:List Lx.Tok) (b:Nat) (w:World) (h:PrSt g l w) (hb:Blk w b 20 (its.map PrIt.val).toArray) (hn1:its.length≤100) (hlen:l.length+(its.flatMap PrIt.toks).length≤60000)
  (hrec:(∃ r,PrIt.ratio r∈its)→PutFlat g) (hrul:∀ r cs,PrIt.rule r cs∈its→RuleSays g w r cs) :
  Calls Tryz.prog 50 #[.pointer (some ⟨g,0,none⟩),.slice (some ⟨b,0,none⟩) its.length its.length] w (TPost g l (its.flatMap PrIt.toks) w):=by
 obtain ⟨i0,hi0,hz0,hz1,hz2⟩:=info_parts Tryz.infoTok
 obtain ⟨n,hn⟩:∃ n,n=its.length:=⟨_,rfl⟩
 rw[←hn] at hn1 ⊢
 have Hn:=Lh hn;have H:=Lh h;have Hb:=Lh hb;have Hrec:=Lh hrec;have Hrul:=Lh hrul;have Hlen:=Lh hlen
 have hglt:=h.lt
 clear hn h hb hrec hrul hlen
 go_enter Tryz.func50,Tryz.ntmps50
 go_wp2_with fail
 go_loopw [13] (fun v13 wr=>∃ k:Nat,k≤n∧v13 = .int .i64 k∧PrSt g (l++(its.take k).flatMap PrIt.toks) wr∧Below g w wr∧KP w wr) (fun v13 _=>n - (intOf v13).toNat)
 case atStart=>exact ⟨0,by omega,rfl,by simpa using H.out,Below.refl _ _,KP.refl _⟩
 case round=>
  obtain ⟨k,hk,rfl,hS,hbel,hkp⟩:=hrel
  by_cases hlt:k < n
  ·obtain ⟨x,hx⟩:∃ x,its[k]?=some x:=⟨_,List.getElem?_eq_getElem (by have:=Hn.out;omega)⟩
   have hbr:=hkp.blk Hb.out (by decide) (by decide)
   have c0:=hbr.cell k
   rw[List.getElem?_toArray,List.getElem?_map,hx] at c0
   simp only[Option.map_some] at c0
   obtain ⟨L,hL⟩:∃ L,L=l++(its.take k).flatMap PrIt.toks:=⟨_,rfl⟩
   have hLn:l++(its.take (k+1)).flatMap PrIt.toks=L++x.toks:=by
    rw[List.take_add_one,hx,List.flatMap_append,←List.append_assoc,←hL];simp
   have hLl:L.length+x.toks.length≤60000:=by
    have e:its.flatMap PrIt.toks=(its.take (k+1)).flatMap PrIt.toks++(its.drop (k+1)).flatMap PrIt.toks:=by rw [←List.flatMap_append,List.take_append_drop]
    have h1:=congrArg List.length hLn
    have h2:=Hlen.out
    rw[e] at h2
    simp only[List.length_append] at h1 h2
    omega
   rw[←hL] at hS
   have hszr:=hbel.size
   have Hx:=Lh hx;have HLn:=Lh hLn;have HS:=Lh hS;have Hbel:=Lh hbel;have Hkp:=Lh hkp
   obtain ⟨vT,hp,hown⟩:=hS
   have p0:=hp.cell 0;have pf0:=hp.free 0
   have hgr:=hp.lt
   simp at p0
   have Hp:=Lh hp;have Hown:=Lh hown
   clear hL hLn hbel hkp hbr hx hp hown
   cases x with
   | name t=>
    have ha:=as_str (Lx.bs t)
    simp only[PrIt.val] at c0
    simp only[PrIt.toks,List.length_singleton] at hLl
    go_wp2_with (at_builtin;refine wpList_append_lies _ rfl _ _ _ rfl g 55 i0 _ 4 40 under_printer hi0 hz0 hz1 hz2 rfl (by omega) _ L.length _ rfl ((Hown.out).alloc _) ⟨wr.heap.size,0,none⟩ 1 1 [.int .i64 1,.string (Lx.bs t),.int .i64 0,.int .i64 0] rfl rfl (World.news_of_block (cs:=#[.int .i64 1,.string (Lx.bs t),.int .i64 0,.int .i64 0]) (t:=55) (fr:=(0,0)) (heap_alloc_new wr _)) (by simp [Value.oneCell']) (by omega) (by unfold maxLen;omega) (by omega) (by simp;omega) (wr.heap.size+1) (by simp) ?_;intro gg cap w3 hown3 hgrow3 hat3 hlt3;have hG:=pr_grow (x:=⟨1,t,0,0⟩) Hp.out Hown.out ((Below.refl _ _).alloc (Nat.le_refl _) _) hgrow3 hown3;have d1:=hG.1.cell 0;have df1:=hG.1.free 0;simp at d1;have HG:=Lh hG.2;clear hG hown3 hgrow3 hat3)
    go_roundw
    case rel=>exact ⟨k+1,by omega,by go_num,by rw [HLn.out];exact HG.out.1,Hbel.out.trans HG.out.2.1,Hkp.out.trans HG.out.2.2⟩
    case measure=>simp [intOf];omega
   | sign t=>
    have ha:=as_str_sg (Lx.bs t)
    have ha2:=as_sg (Lx.bs t)
    simp only[PrIt.val] at c0
    simp only[PrIt.toks,List.length_singleton] at hLl
    go_wp2_with (at_builtin;refine wpList_append_lies _ rfl _ _ _ rfl g 55 i0 _ 4 40 under_printer hi0 hz0 hz1 hz2 rfl (by omega) _ L.length _ rfl ((Hown.out).alloc _) ⟨wr.heap.size,0,none⟩ 1 1 [.int .i64 3,.string (Lx.bs t),.int .i64 0,.int .i64 0] rfl rfl (World.news_of_block (cs:=#[.int .i64 3,.string (Lx.bs t),.int .i64 0,.int .i64 0]) (t:=55) (fr:=(0,0)) (heap_alloc_new wr _)) (by simp [Value.oneCell']) (by omega) (by unfold maxLen;omega) (by omega) (by simp;omega) (wr.heap.size+1) (by simp) ?_;intro gg cap w3 hown3 hgrow3 hat3 hlt3;have hG:=pr_grow (x:=⟨3,t,0,0⟩) Hp.out Hown.out ((Below.refl _ _).alloc (Nat.le_refl _) _) hgrow3 hown3;have d1:=hG.1.cell 0;have df1:=hG.1.free 0;simp at d1;have HG:=Lh hG.2;clear hG hown3 hgrow3 hat3)
    go_roundw
    case rel=>exact ⟨k+1,by omega,by go_num,by rw [HLn.out];exact HG.out.1,Hbel.out.trans HG.out.2.1,Hkp.out.trans HG.out.2.2⟩
    case measure=>simp [intOf];omega
   | num z=>
    have ha:=as_str_int z
    have ha2:=as_sg_int z
    have ha3:=as_int z
    simp only[PrIt.val] at c0
    simp only[PrIt.toks,List.length_singleton] at hLl
    go_wp2_with (at_builtin;refine wpList_append_lies _ rfl _ _ _ rfl g 55 i0 _ 4 40 under_printer hi0 hz0 hz1 hz2 rfl (by omega) _ L.length _ rfl ((Hown.out).alloc _) ⟨wr.heap.size,0,none⟩ 1 1 [.int .i64 2,.string ⟨#[]⟩,.int .i64 z,.int .i64 0] rfl rfl (World.news_of_block (cs:=#[.int .i64 2,.string ⟨#[]⟩,.int .i64 z,.int .i64 0]) (t:=55) (fr:=(0,0)) (heap_alloc_new wr _)) (by simp [Value.oneCell']) (by omega) (by unfold maxLen;omega) (by omega) (by simp;omega) (wr.heap.size+1) (by simp) ?_;intro gg cap w3 hown3 hgrow3 hat3 hlt3;have hG:=pr_grow (x:=⟨2,[],z,0⟩) Hp.out Hown.out ((Below.refl _ _).alloc (Nat.le_refl _) _) hgrow3 hown3;have d1:=hG.1.cell 0;have df1:=hG.1.free 0;simp at d1;have HG:=Lh hG.2;clear hG hown3 hgrow3 hat3)
    go_roundw
    case rel=>exact ⟨k+1,by omega,by go_num,by rw [HLn.out];exact HG.out.1,Hbel.out.trans HG.out.2.1,Hkp.out.trans HG.out.2.2⟩
    case measure=>simp [intOf];omega
   | ratio r=>
    obtain ⟨rn,rd⟩:=r
    have ha:=as_str_rat (.agg #[.int .i64 rn,.int .i64 rd])
    have ha2:=as_sg_rat (.agg #[.int .i64 rn,.int .i64 rd])
    have ha3:=as_int_rat (.agg #[.int .i64 rn,.int .i64 rd])
    have ha4:=as_rat (.agg #[.int .i64 rn,.int .i64 rd])
    simp only[PrIt.val] at c0
    have hflat:=Hrec.out ⟨_,List.mem_of_getElem? Hx.out⟩
    have Hflat:=Lh hflat
    have HLl:=Lh hLl
    clear hflat hLl
    go_wp2_with fail
    obtain ⟨W,hW⟩:∃ W,W=(wr.alloc (.cells #[.int .i64 rn,.int .i64 rd] 75)).alloc (.cells #[.iface 3 (.int .i64 rn),.iface 114 (.string ⟨#[47]⟩),.iface 3 (.int .i64 rd)] 20):=⟨_,rfl⟩
    have hbw:Below wr.heap.size wr W:=by rw [hW];exact ((Below.refl _ _).alloc (Nat.le_refl _) _).alloc (by simp) _
    have hbb:Blk W (wr.heap.size+1) 20 ([PrIt.num rn,PrIt.sign [47],PrIt.num rd].map PrIt.val).toArray:=by rw [hW];exact Blk.new_at _ _ (by simp)
    rw[←hW]
    refine (Hflat.out [.num rn,.sign [47],.num rd] L _ W (by simp [PrIt.flat]) (HS.out.next hbw) hbb (by simp) (by simpa [PrIt.toks,Sx.ratioT] using HLl.out)).mono ?_
    rintro e w3 ⟨rfl,h3,h4,h5⟩
    have H3:=Lh h3;have H4:=Lh ((hbw.mono (by omega)).trans h4);have H5:=Lh ((KP.below hbw).trans h5)
    clear h3 h4 h5 hbw hbb hW
    go_wp2_with fail
    go_roundw
    case rel=>exact ⟨k+1,by omega,by go_num,by rw [HLn.out];exact H3.out,Hbel.out.trans H4.out,Hkp.out.trans H5.out⟩
    case measure=>simp [intOf];omega
   | rule r cs=>
    obtain ⟨⟨v0,v1,v2,v3,v4,A,m,c,rfl⟩,hcall⟩:=Hrul.out r cs (List.mem_of_getElem? Hx.out)
    have ha:=as_str_rul (.agg #[.int .i64 v0,.int .i64 v1,.string v2,.int .i64 v3,.int .i64 v4,.slice A m c])
    have ha2:=as_sg_rul (.agg #[.int .i64 v0,.int .i64 v1,.string v2,.int .i64 v3,.int .i64 v4,.slice A m c])
    have ha3:=as_int_rul (.agg #[.int .i64 v0,.int .i64 v1,.string v2,.int .i64 v3,.int .i64 v4,.slice A m c])
    have ha4:=as_rat_rul (.agg #[.int .i64 v0,.int .i64 v1,.string v2,.int .i64 v3,.int .i64 v4,.slice A m c])
    have ha5:=as_rul (.agg #[.int .i64 v0,.int .i64 v1,.string v2,.int .i64 v3,.int .i64 v4,.slice A m c])
    simp only[PrIt.val] at c0
    have Hcall:=Lh hcall
    have HLl:=Lh hLl
    clear hcall hLl
    go_wp2_with fail
    obtain ⟨W,hW⟩:∃ W,W=wr.alloc (.cells #[.int .i64 v0,.int .i64 v1,.string v2,.int .i64 v3,.int .i64 v4,.slice A m c] 38):=⟨_,rfl⟩
    have hbw:Below wr.heap.size wr W:=by rw [hW];exact (Below.refl _ _).alloc (Nat.le_refl _) _
    rw[←hW]
    refine (Hcall.out L W (HS.out.next hbw) (Hbel.out.trans (hbw.mono (by omega))) HLl.out).mono ?_
    rintro e w3 ⟨rfl,h3,h4,h5⟩
    have H3:=Lh h3;have H4:=Lh ((hbw.mono (by omega)).trans h4);have H5:=Lh ((KP.below hbw).trans h5)
    clear h3 h4 h5 hbw hW
    go_wp2_with fail
    go_roundw
    case rel=>exact ⟨k+1,by omega,by go_num,by rw [HLn.out];exact H3.out,Hbel.out.trans H4.out,Hkp.out.trans H5.out⟩
    case measure=>simp [intOf];omega
  ·obtain rfl:k=n:=by omega
   go_wp2_with fail
   go_end0
   exact ⟨rfl,by rw [Hn.out,List.take_length] at hS;exact hS,hbel,hkp⟩

theorem lPutFlat (g:Nat):PutFlat g:=fun its l b W hj h hb h1 hl=>
 lPutG g its l b W h hb h1 hl (fun ⟨_r,hr⟩=>(hj _ hr).elim) (fun _r _cs hr=>(hj _ hr).elim)
theorem lPut (g:Nat) (its:List PrIt) (l:List Lx.Tok) (b:Nat) (w:World) (h:PrSt g l w) (hb:Blk w b 20 (its.map PrIt.val).toArray) (hn1:its.length≤100) (hlen:l.length+(its.flatMap PrIt.toks).length≤60000) (hrul:∀ r cs,PrIt.rule r cs∈its→RuleSays g w r cs) :
  Calls Tryz.prog 50 #[.pointer (some ⟨g,0,none⟩),.slice (some ⟨b,0,none⟩) its.length its.length] w (TPost g l (its.flatMap PrIt.toks) w):=
 lPutG g its l b w h hb hn1 hlen (fun _=>lPutFlat g) hrul
end Go.Proofs.YtjonaidancomgaaGreatDoor

namespace Go.Proofs.YtjonaidancomgaaGreatDoor.Lx

end Go.Proofs.YtjonaidancomgaaGreatDoor.Lx

namespace Go.Proofs.YtjonaidancomgaaGreatDoor.Lx

end Go.Proofs.YtjonaidancomgaaGreatDoor.Lx
namespace Go.Proofs.YtjonaidancomgaaGreatDoor.Sx
open Lx (Tok)
theorem ended_ok {α:Type} {last:Int} {x y:α} {l r:List Tok} (h:ended last x l = .ok y r):l = []∧y=x:=by
 cases l with
 | nil=>unfold ended at h;injection h with h;exact ⟨rfl,h.symm⟩
 | cons=>unfold ended fail at h;cases h
theorem parseBy_ok {α:Type} {f:Int→List Tok→R α} {src:List UInt8} {x:α} (h:parseBy f src = .ok x):∃ l,src.length≤65536∧Lx.lex src = .ok l∧f src.length l = .ok x []:=by
 unfold parseBy at h
 split at h
 ·cases h
 ·rename_i hl
  split at h
  ·cases h
  ·rename_i l hlx
   split at h
   ·rename_i y r hb
    injection h with h
    subst h
    obtain ⟨z,l1,k1,k2⟩:=bind_ok hb
    obtain ⟨rfl,rfl⟩:=ended_ok k2
    exact ⟨l,by omega,hlx,k1⟩
   ·cases h
theorem ok_bind' {α β:Type} (a:α) (l:List Tok) (f:α→List Tok→R β):(R.ok a l).bind f=f a l:=rfl
theorem hit_of {k:Int} {x:List UInt8} {t:Tok} {l:List Tok} (h1:t.kind=k) (h2:t.text=x):hit k x (t::l)=true:=by
 unfold hit;simp[h1,h2]
end Go.Proofs.YtjonaidancomgaaGreatDoor.Sx

namespace Go.Proofs.YtjonaidancomgaaGreatDoor.Sx
open Lx (Tok)
variable {last : Int} {l m : List Tok}

theorem Sim.cons2 {l r:List Tok} {t:Tok} (h:Sim l (t::r)):∃ u s,l=u::s∧(u.kind=t.kind∧u.text=t.text∧u.n=t.n)∧Sim s r:=by
 obtain ⟨u,s,h1,h2,h3,h4,h5⟩:=h.cons
 exact ⟨u,s,h1,⟨h2,h3,h4⟩,h5⟩
theorem Sim.name2 {l r:List Tok} {x:List UInt8} (h:Sim l (nameT x::r)):∃ u s,l=u::s∧(u.kind=1∧u.text=x∧u.n=0)∧Sim s r:=h.cons2
theorem Sim.num2 {l r:List Tok} {n:Int} (h:Sim l (numT n::r)):∃ u s,l=u::s∧(u.kind=2∧u.text = []∧u.n=n)∧Sim s r:=h.cons2
theorem Sim.sg2 {l r:List Tok} {c:UInt8} (h:Sim l (sgT c::r)):∃ u s,l=u::s∧(u.kind=3∧u.text = [c]∧u.n=0)∧Sim s r:=h.cons2
theorem rd_need {k:Int} {x:List UInt8} {t:Tok} (h1:t.kind=k) (h2:t.text=x) (h:Sim l (t::m)):∃ r,need last k x l = .ok () r∧Sim r m:=by
 obtain ⟨u,s,rfl,⟨a1,a2,_⟩,hs⟩:=h.cons2
 exact ⟨s,by unfold need;rw[if_pos (hit_of (a1.trans h1) (a2.trans h2))];rfl,hs⟩
theorem rd_sign {c:UInt8} (h:Sim l (sgT c::m)):∃ r,sign last c l = .ok () r∧Sim r m:=rd_need rfl rfl h
theorem rd_word {x:List UInt8} (h:Sim l (nameT x::m)):∃ r,word last x l = .ok () r∧Sim r m:=rd_need rfl rfl h
theorem rd_name {x:List UInt8} (h:Sim l (nameT x::m)):∃ r,name last l = .ok x r∧Sim r m:=by
 obtain ⟨u,s,rfl,⟨a1,a2,_⟩,hs⟩:=h.name2
 exact ⟨s,by unfold name;simp[a1,a2],hs⟩
theorem rd_number {lo hi n:Int} (h1:lo≤n) (h2:n≤hi) (h:Sim l (numT n::m)):∃ r,number last lo hi l = .ok n r∧Sim r m:=by
 obtain ⟨u,s,rfl,⟨a1,_,a3⟩,hs⟩:=h.num2
 exact ⟨s,by unfold number;simp[a1,a3,h1,h2],hs⟩
theorem inB_iff {n a b:Int} : inB n a b=true↔a≤n∧n≤b:=by unfold inB;simp
theorem hit_kind {k j:Int} {x:List UInt8} {t:Tok} {r:List Tok} (h1:t.kind=j) (hne:j≠k):hit k x (t::r)=false:=by
 show (t.kind == k && t.text == x)=false
 have:(t.kind == k)=false:=by rw [h1];simpa using hne
 rw[this];rfl
theorem hit_text {k:Int} {x y:List UInt8} {t:Tok} {r:List Tok} (h1:t.text=y) (hne:y≠x):hit k x (t::r)=false:=by
 show (t.kind == k && t.text == x)=false
 have:(t.text == x)=false:=by rw [h1];simpa using hne
 rw[this,Bool.and_false]
theorem rd_ref {s:List UInt8} {n:Int} (hk:refOk s n=true) (h:Sim l (refT s n++m)):∃ r,ref last l = .ok (s,unref s n) r∧Sim r m:=by
 unfold refOk at hk
 rw[Bool.and_eq_true,inB_iff] at hk
 unfold refT at h
 unfold unref
 cases s with
 | nil=>
  obtain ⟨u,l1,rfl,⟨a1,a2,_⟩,hs⟩:=Sim.sg2 (c:=35) (r:=numT n::m) h
  obtain ⟨r,e,s2⟩:=rd_number (last:=last) (lo:=0) (hi:=4095) hk.1.1 hk.1.2 hs
  refine ⟨r,?_,s2⟩
  unfold ref
  rw[if_pos (hit_of a1 a2),List.tail_cons,e,ok_bind']
  rfl
 | cons c s=>
  have h':Sim l (nameT (c::s)::m):=h
  obtain ⟨r,e,s2⟩:=rd_name (last:=last) h'
  obtain ⟨u,l1,rfl,⟨a1,_,_⟩,_⟩:=h'.name2
  refine ⟨r,?_,s2⟩
  unfold ref
  rw[hit_kind a1 (by decide),if_neg (by simp),e,ok_bind']
  rfl
theorem rd_ratio {x:Ratio} (hk:x.fine=true) (h:Sim l (ratioT x++m)):∃ r,ratio last l = .ok x r∧Sim r m:=by
 unfold Ratio.fine at hk
 simp only[Bool.and_eq_true,decide_eq_true_eq] at hk
 obtain ⟨⟨⟨⟨h1,h2⟩,h3⟩,h4⟩,h5⟩:=hk
 have h':Sim l (numT x.num::sgT 47::numT x.den::m):=h
 obtain ⟨r1,e1,s1⟩:=rd_number (last:=last) (lo:=0) (hi:=12000) h3 (by omega) h'
 obtain ⟨r2,e2,s2⟩:=rd_sign (last:=last) s1
 obtain ⟨r3,e3,s3⟩:=rd_number (last:=last) (lo:=max 1 ((x.num+11) / 12)) (hi:=1000) (by omega) h2 s2
 refine ⟨r3,?_,s3⟩
 unfold ratio
 rw[e1,ok_bind',e2,ok_bind',e3,ok_bind']
 unfold lowest
 rw[h5]
 simp
theorem find_of {ws:List (List UInt8)} {w:List UInt8} {i:Nat} (hw:findT ws (nameT w)=some i) (h:Sim l (nameT w::m)):find ws l=some i∧Sim l.tail m:=by
 obtain ⟨u,s,rfl,⟨a1,a2,_⟩,hs⟩:=h.cons2
 exact ⟨by rw [find_cons,findT_sim ws a1 a2,hw],hs⟩
theorem rd_oneOf {ws:List (List UInt8)} {w:List UInt8} {i:Nat} (hw:findT ws (nameT w)=some i) (h:Sim l (nameT w::m)):∃ r,oneOf last ws l = .ok (i:Int) r∧Sim r m:=by
 obtain ⟨h1,h2⟩:=find_of hw h
 exact ⟨l.tail,by unfold oneOf;rw[h1],h2⟩
theorem rd_opt {α:Type} {w:List UInt8} {f:List Tok→R α} {d x:α} {ts:List Tok} (hf:∀ l m,Sim l (ts++m)→∃ r,f l = .ok x r∧Sim r m) (h:Sim l (nameT w::(ts++[sgT 59])++m)):∃ r,opt last w f d l = .ok x r∧Sim r m:=by
 have h':Sim l (nameT w::(ts++(sgT 59::m))):=by simpa using h
 obtain ⟨u,s,rfl,⟨a1,a2,_⟩,hs⟩:=h'.name2
 obtain ⟨r1,e1,s1⟩:=hf _ _ hs
 obtain ⟨r2,e2,s2⟩:=rd_sign (last:=last) s1
 refine ⟨r2,?_,s2⟩
 unfold opt
 rw[if_pos (hit_of a1 a2),List.tail_cons,e1,ok_bind',e2,ok_bind']
theorem rd_opt_none {α:Type} {w:List UInt8} {f:List Tok→R α} {d:α} (h:hit 1 w m=false) (hs:Sim l m):opt last w f d l = .ok d l:=by
 unfold opt
 rw[hit_sim hs,h,if_neg (by simp)]
theorem ruleT_head (r:Rule):∃ w ts,ruleT r=nameT w::ts:=by
 cases r;rw[ruleT];exact ⟨_,_,rfl⟩
theorem rd_kids {f:Nat→List Tok→R Rule} : ∀ (ks acc:List Rule) (n:Nat) (l m:List Tok),acc.length+ks.length≤200→l.length+1≤n→(∀ r∈ks,∀ b,b < 200→∀ l m,Sim l (ruleT r++m)→∃ s,f b l = .ok r.un s∧Sim s m)→
  Sim l (kidsT ks++(sgT 125::m))→∃ r,kids last f n acc l = .ok (acc++unRules ks) r∧Sim r m
 | ks,acc,0,l,m,_,hn,_,_=>by omega
 | [],acc,n+1,l,m,_,_,_,h=>by
  have h':Sim l (sgT 125::m):=h
  obtain ⟨u,s,rfl,⟨a1,a2,_⟩,hs⟩:=h'.sg2
  refine ⟨s,?_,hs⟩
  unfold kids
  rw[if_pos (hit_of a1 a2),unRules,List.append_nil];rfl
 | k::ks,acc,n+1,l,m,ha,hn,hf,h=>by
  have h':Sim l (ruleT k++(sgT 59::(kidsT ks++(sgT 125::m)))):=by
   rw[kidsT] at h;simpa using h
  obtain ⟨w,ts,hw⟩:=ruleT_head k
  have hh:hit 3 [125] l=false:=by
   rw[hit_sim h',hw]
   exact hit_kind (j:=1) rfl (by decide)
  simp only[List.length_cons] at ha
  obtain ⟨r1,e1,s1⟩:=hf k (by simp) acc.length (by omega) _ _ h'
  obtain ⟨r2,e2,s2⟩:=rd_sign (last:=last) s1
  have n1:=h'.length
  have n2:=s2.length
  rw[hw] at n1
  simp at n1 n2
  obtain ⟨r3,e3,s3⟩:=rd_kids ks (acc++[k.un]) n r2 m (by simp;omega) (by omega) (fun r hr=>hf r (by simp [hr])) s2
  refine ⟨r3,?_,s3⟩
  rw[kids,hh,if_neg (by simp),e1,ok_bind',e2,ok_bind',e3,unRules]
  simp
theorem rulesOk_mem:∀ {k:Nat} {rs:List Rule},rulesOk k rs=true→∀ r∈rs,ruleOk k r=true
 | _,[],_,_,h=>by simp at h
 | k,q::rs,h,r,hr=>by
  rw[rulesOk,Bool.and_eq_true] at h
  rcases List.mem_cons.1 hr with rfl | hr
  ·exact h.1
  ·exact rulesOk_mem h.2 r hr
theorem ruleOk_op {k:Nat} {op co:Int} {nm:List UInt8} {n d:Int} {ks:List Rule} (h:ruleOk (k+1) (.mk op co nm n d ks)=true) :
  ks.length≤200∧rulesOk k ks=true∧((op=1∨op=2)∧nm = []∧co=0∧n=0∧d=0∨op=3∧nm = []∧co=0∧(0≤n∧n≤200)∧d=0∨op=4∧nm = []∧co=0∧n=0∧d=0∧ks.length=1∨
   op=5∧refOk nm co=true∧(0≤n∧n≤12)∧d=0∧ks = []∨op=6∧refOk nm co=true∧(1≤n∧n≤100)∧d=0∧ks = []∨op=7∧nm = []∧co=0∧(0≤n∧n≤10000)∧d=0∧ks = []∨
   op=8∧nm = []∧co=0∧Ratio.fine ⟨n,d⟩=true∧ks = []∨op=9∧refOk nm co=true∧n=0∧d=0∧ks = []):=by
 rw[ruleOk,Bool.and_eq_true,Bool.and_eq_true,decide_eq_true_eq] at h
 obtain ⟨⟨h1,h2⟩,h3⟩:=h
 refine ⟨h1,h2,?_⟩
 split at h3
 ·rename_i h
  simp only[Bool.and_eq_true,List.isEmpty_iff,beq_iff_eq] at h3
  exact .inl ⟨h,h3.1.1.1,h3.1.1.2,h3.1.2,h3.2⟩
 split at h3
 ·rename_i h
  simp only[Bool.and_eq_true,List.isEmpty_iff,beq_iff_eq,inB_iff] at h3
  exact .inr (.inl ⟨h,h3.1.1.1,h3.1.1.2,h3.1.2,h3.2⟩)
 split at h3
 ·rename_i h
  simp only[Bool.and_eq_true,List.isEmpty_iff,beq_iff_eq] at h3
  exact .inr (.inr (.inl ⟨h,h3.1.1.1.1,h3.1.1.1.2,h3.1.1.2,h3.1.2,h3.2⟩))
 split at h3
 ·rename_i h
  simp only[Bool.and_eq_true,List.isEmpty_iff,beq_iff_eq,inB_iff] at h3
  exact .inr (.inr (.inr (.inl ⟨h,h3.1.1.1,h3.1.1.2,h3.1.2,h3.2⟩)))
 split at h3
 ·rename_i h
  simp only[Bool.and_eq_true,List.isEmpty_iff,beq_iff_eq,inB_iff] at h3
  exact .inr (.inr (.inr (.inr (.inl ⟨h,h3.1.1.1,h3.1.1.2,h3.1.2,h3.2⟩))))
 split at h3
 ·rename_i h
  simp only[Bool.and_eq_true,List.isEmpty_iff,beq_iff_eq,inB_iff] at h3
  exact .inr (.inr (.inr (.inr (.inr (.inl ⟨h,h3.1.1.1.1,h3.1.1.1.2,h3.1.1.2,h3.1.2,h3.2⟩)))))
 split at h3
 ·rename_i h
  simp only[Bool.and_eq_true,List.isEmpty_iff,beq_iff_eq] at h3
  exact .inr (.inr (.inr (.inr (.inr (.inr (.inl ⟨h,h3.1.1.1,h3.1.1.2,h3.1.2,h3.2⟩))))))
 split at h3
 ·rename_i h
  simp only[Bool.and_eq_true,List.isEmpty_iff,beq_iff_eq] at h3
  exact .inr (.inr (.inr (.inr (.inr (.inr (.inr ⟨h,h3.1.1.1,h3.1.1.2,h3.1.2,h3.2⟩))))))
 ·cases h3
theorem findRule {op:Int} (h:1≤op∧op≤9):findT ruleWords (nameT (ruleWords.getD (op - 1).toNat []))=some (op - 1).toNat:=by
 have:op=1∨op=2∨op=3∨op=4∨op=5∨op=6∨op=7∨op=8∨op=9:=by omega
 rcases this with rfl | rfl | rfl | rfl | rfl | rfl | rfl | rfl | rfl <;> decide
theorem unRules_one {ks:List Rule} (h:ks.length=1):∃ r,ks = [r]:=by
 match ks,h with
 | [r],_=>exact ⟨r,rfl⟩
theorem rd_rule:∀ (k:Nat) (r:Rule),ruleOk k r=true→∀ b,b < 200→∀ l m,Sim l (ruleT r++m)→∃ s,rule last k b l = .ok r.un s∧Sim s m
 | 0,r,h,_,_,_,_,_=>by cases r;simp[ruleOk] at h
 | k+1,.mk op co nm n d ks,h,b,hb,l,m,hs=>by
  obtain ⟨hlen,hks,hop⟩:=ruleOk_op h
  have ih:∀ r∈ks,∀ b,b < 200→∀ l m,Sim l (ruleT r++m)→∃ s,rule last k b l = .ok r.un s∧Sim s m:=fun r hr=>rd_rule k r (rulesOk_mem hks r hr)
  have hr:1≤op∧op≤9:=by omega
  rw[ruleT] at hs
  obtain ⟨r1,e1,s1⟩:=rd_oneOf (last:=last) (findRule hr) hs
  have hi:(((op - 1).toNat:Nat):Int)+1=op:=by omega
  rw[rule,e1,ok_bind',hi]
  have hlim:¬ (b=200∨(op=4∧k=0)):=by
   rintro (h | ⟨h,hk⟩)
   ·omega
   ·subst hk
    rcases hop with h' | h' | h' | h' | h' | h' | h' | h' <;> try omega
    obtain ⟨q,rfl⟩:=unRules_one h'.2.2.2.2.2
    cases q
    simp[rulesOk,ruleOk] at hks
  rw[if_neg hlim,Rule.un]
  rcases hop with ⟨h0 | h0,rfl,rfl,rfl,rfl⟩ | ⟨rfl,rfl,rfl,hn,rfl⟩ | ⟨rfl,rfl,rfl,rfl,rfl,h1⟩ | ⟨rfl,hrf,hn,rfl,rfl⟩ | ⟨rfl,hrf,hn,rfl,rfl⟩ | ⟨rfl,rfl,rfl,hn,rfl,rfl⟩ | ⟨rfl,rfl,rfl,hf,rfl⟩ | ⟨rfl,hrf,rfl,rfl,rfl⟩
  ·subst h0
   have s2:Sim r1 (sgT 123::(kidsT ks++(sgT 125::m))):=by simpa using s1
   obtain ⟨r2,e2,s3⟩:=rd_sign (last:=last) s2
   obtain ⟨r3,e3,s4⟩:=rd_kids (last:=last) ks [] r2.length.succ r2 m (by simpa using hlen) (Nat.le_refl _) ih s3
   refine ⟨r3,?_,s4⟩
   unfold ruleBody
   simp only[show ¬ (1:Int)=4 by decide,show ¬ (1:Int)=5 by decide,show ¬ (1:Int)=6 by decide,show ¬ (1:Int)=7 by decide,show ¬ (1:Int)=8 by decide,show ¬ (1:Int)=9 by decide,show ¬ (1:Int)=3 by decide,if_false]
   rw[e2,ok_bind',e3,ok_bind']
   rfl
  ·subst h0
   have s2:Sim r1 (sgT 123::(kidsT ks++(sgT 125::m))):=by simpa using s1
   obtain ⟨r2,e2,s3⟩:=rd_sign (last:=last) s2
   obtain ⟨r3,e3,s4⟩:=rd_kids (last:=last) ks [] r2.length.succ r2 m (by simpa using hlen) (Nat.le_refl _) ih s3
   refine ⟨r3,?_,s4⟩
   unfold ruleBody
   simp only[show ¬ (2:Int)=4 by decide,show ¬ (2:Int)=5 by decide,show ¬ (2:Int)=6 by decide,show ¬ (2:Int)=7 by decide,show ¬ (2:Int)=8 by decide,show ¬ (2:Int)=9 by decide,show ¬ (2:Int)=3 by decide,if_false]
   rw[e2,ok_bind',e3,ok_bind']
   rfl
  ·have s2:Sim r1 (numT n::sgT 123::(kidsT ks++(sgT 125::m))):=by simpa using s1
   obtain ⟨r0,e0,s2⟩:=rd_number (last:=last) (lo:=0) (hi:=200) hn.1 hn.2 s2
   obtain ⟨r2,e2,s3⟩:=rd_sign (last:=last) s2
   obtain ⟨r3,e3,s4⟩:=rd_kids (last:=last) ks [] r2.length.succ r2 m (by simpa using hlen) (Nat.le_refl _) ih s3
   refine ⟨r3,?_,s4⟩
   unfold ruleBody
   simp only[show ¬ (3:Int)=4 by decide,show ¬ (3:Int)=5 by decide,show ¬ (3:Int)=6 by decide,show ¬ (3:Int)=7 by decide,show ¬ (3:Int)=8 by decide,show ¬ (3:Int)=9 by decide,if_false,if_true]
   rw[e0,ok_bind',e2,ok_bind',e3,ok_bind']
   rfl
  ·obtain ⟨q,rfl⟩:=unRules_one h1
   have s2:Sim r1 (ruleT q++m):=by simpa [notT] using s1
   obtain ⟨r2,e2,s3⟩:=ih q (by simp) 0 (by omega) _ _ s2
   refine ⟨r2,?_,s3⟩
   unfold ruleBody
   simp only[if_true]
   rw[e2,ok_bind',unRules,unRules]
   rfl
  ·have s2:Sim r1 (refT nm co++(numT n::m)):=by simpa using s1
   obtain ⟨r2,e2,s3⟩:=rd_ref (last:=last) hrf s2
   obtain ⟨r3,e3,s4⟩:=rd_number (last:=last) (lo:=0) (hi:=12) hn.1 hn.2 s3
   refine ⟨r3,?_,s4⟩
   unfold ruleBody
   simp only[show ¬ (5:Int)=4 by decide,if_false,if_true]
   rw[e2,ok_bind',e3,ok_bind',unRules]
  ·have s2:Sim r1 (refT nm co++(numT n::m)):=by simpa using s1
   obtain ⟨r2,e2,s3⟩:=rd_ref (last:=last) hrf s2
   obtain ⟨r3,e3,s4⟩:=rd_number (last:=last) (lo:=1) (hi:=100) hn.1 hn.2 s3
   refine ⟨r3,?_,s4⟩
   unfold ruleBody
   simp only[show ¬ (6:Int)=4 by decide,show ¬ (6:Int)=5 by decide,if_false,if_true]
   rw[e2,ok_bind',e3,ok_bind',unRules]
  ·have s2:Sim r1 (numT n::m):=by simpa using s1
   obtain ⟨r3,e3,s4⟩:=rd_number (last:=last) (lo:=0) (hi:=10000) hn.1 hn.2 s2
   refine ⟨r3,?_,s4⟩
   unfold ruleBody
   simp only[show ¬ (7:Int)=4 by decide,show ¬ (7:Int)=5 by decide,show ¬ (7:Int)=6 by decide,if_false,if_true]
   rw[e3,ok_bind',unRules]
   rfl
  ·have s2:Sim r1 (ratioT ⟨n,d⟩++m):=by simpa using s1
   obtain ⟨r3,e3,s4⟩:=rd_ratio (last:=last) hf s2
   refine ⟨r3,?_,s4⟩
   unfold ruleBody
   simp only[show ¬ (8:Int)=4 by decide,show ¬ (8:Int)=5 by decide,show ¬ (8:Int)=6 by decide,show ¬ (8:Int)=7 by decide,if_false,if_true]
   rw[e3,ok_bind',unRules]
   rfl
  ·have s2:Sim r1 (refT nm co++m):=by simpa using s1
   obtain ⟨r3,e3,s4⟩:=rd_ref (last:=last) hrf s2
   refine ⟨r3,?_,s4⟩
   unfold ruleBody
   simp only[show ¬ (9:Int)=4 by decide,show ¬ (9:Int)=5 by decide,show ¬ (9:Int)=6 by decide,show ¬ (9:Int)=7 by decide,show ¬ (9:Int)=8 by decide,if_false,if_true]
   rw[e3,ok_bind',unRules]
end Go.Proofs.YtjonaidancomgaaGreatDoor.Sx
