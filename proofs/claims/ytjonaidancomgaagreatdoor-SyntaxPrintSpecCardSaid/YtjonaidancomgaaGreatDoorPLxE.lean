/- Parts of the proof, joined into one text: LxE, q08, LxF, LxG, LxH. -/
import Derived.Test.YtjonaidancomgaaGreatDoorPShelf
import Derived.Deep.RegionHeld3
import Derived.Deep.AppendLies
import Derived.Deep.RegionLaw
import Derived.Test.YtjonaidancomgaaGreatDoorPLxPlain
import Derived.Lib.IndexBytes
set_option maxHeartbeats 1000000
namespace Go.Proofs.YtjonaidancomgaaGreatDoor
open Go.RowKit
open Lx (Tok)
def aC (w:World) (g:Nat) (t:TypeId) (cs:Array Value):Prop:=w.heap[g]?=some (.cells cs t (0,0))
section
variable {w w' : World} {g : Nat} {t : TypeId} {cs : Array Value}
theorem aC.lt (h:aC w g t cs):g < w.heap.size:=by
 rcases Nat.lt_or_ge g w.heap.size with hlt | hge
 ·exact hlt
 ·unfold aC at h;rw[Array.getElem?_eq_none hge] at h;cases h
theorem aC.cell (h:aC w g t cs) (i:Nat):w.cell? ⟨g,i,none⟩=cs[i]?:=cell_of_row w g i cs t (0,0) h
theorem aC.free (h:aC w g t cs) (i:Nat):w.frozen? ⟨g,i,none⟩=false:=by
 unfold aC at h;simp[World.frozen?,h]
theorem aC.new (w:World) (t:TypeId) (cs:Array Value):aC (w.alloc (.cells cs t)) w.heap.size t cs:=heap_alloc_new w _
theorem aC.drew (h:aC w g t cs):aC w.drew g t cs:=h
theorem aC.drewN (h:aC w g t cs) (n:Nat):aC (w.drewN n) g t cs:=h
theorem aC.alloc (h:aC w g t cs) (o:Obj):aC (w.alloc o) g t cs:=(Below.heap_alloc w o g h.lt).trans h
theorem aC.set (h:aC w g t cs) (i:Nat) (u:Value):aC (w.setCell ⟨g,i,none⟩ u) g t (cs.setIfInBounds i u):=by
 unfold aC at h ⊢;simp[World.setCell,Array.getElem?_modify,h]
theorem aC.far (h:aC w g t cs) {p:Addr} (hp:g≠p.block) (u:Value):aC (w.setCell p u) g t cs:=(Below.heap_setCell w p u g hp).trans h
theorem aC.below {B:Nat} (h:aC w g t cs) (hb:Below B w w') (hg:g < B):aC w' g t cs:=(hb.block g hg).trans h
theorem aC.grown {row:Option Nat} (h:aC w g t cs) (hb:w.grownBy w' row) (hg:row≠some g):aC w' g t cs:=(hb.block g h.lt (fun e=>hg e.symm)).trans h
theorem aC.ne {g':Nat} {t':TypeId} {cs':Array Value} (h:aC w g t cs) (h':aC w g' t' cs') (hne:t≠t'):g≠g':=by
 rintro rfl;unfold aC at h h';rw[h] at h';injection h' with h';injection h' with _ ht;exact hne ht
theorem own_ne {base:Nat} {e:TypeId} {size n:Nat} {v:Value} {xs:List Value} (h:w.ownsRow base e size v n xs) (hg:aC w g t cs) (hne:e≠t):v.ownBlock≠some g:=by
 rcases h.2 with ⟨rfl,_⟩ | ⟨g',cap,cur,rfl,_,hh,_⟩
 ·simp[Value.ownBlock]
 ·intro he;have:g'=g:=by simpa [Value.ownBlock] using he
  subst this;exact aC.ne (t:=e) hh hg hne rfl
end
theorem own_below {w w':World} {base:Nat} {e:TypeId} {size n:Nat} {v:Value} {xs:List Value} (h:w.ownsRow base e size v n xs) (hb:Below w.heap.size w w'):w'.ownsRow base e size v n xs:=by
 obtain ⟨h1,h2⟩:=h;refine ⟨h1,?_⟩
 rcases h2 with h2 | ⟨g,cap,cur,hv,hg,hh,r⟩
 ·exact .inl h2
 ·refine .inr ⟨g,cap,cur,hv,hg,?_,r⟩;have hlt:g < w.heap.size:=by
   rcases Nat.lt_or_ge g w.heap.size with hlt | hge
   ·exact hlt
   ·rw[Array.getElem?_eq_none hge] at hh;cases hh
  exact (hb.block g hlt).trans hh
theorem dZ {w:World} {base:Nat} {e:TypeId} {size n:Nat} {v:Value} {xs:List Value} (h:w.ownsRow base e size v n xs) {p:Addr} (hp:v.ownBlock≠some p.block) (u:Value):(w.setCell p u).ownsRow base e size v n xs:=by
 obtain ⟨h1,h2⟩:=h;refine ⟨h1,?_⟩
 rcases h2 with h2 | ⟨g,cap,cur,hv,hg,hh,r⟩
 ·exact .inl h2
 ·exact .inr ⟨g,cap,cur,hv,hg,by
   rw[Below.heap_setCell _ _ _ _ (by intro e;exact hp (by rw [hv,←e];rfl))];exact hh,r⟩
theorem kY {w:World} {base:Nat} {e:TypeId} {size n:Nat} {v:Value} {xs:List Value} (h:w.ownsRow base e size v n xs) {b:Nat} (hb:v.ownBlock=some b):b < w.heap.size:=by
 rcases h.2 with ⟨rfl,_⟩ | ⟨g,cap,cur,rfl,_,hh,_⟩
 ·cases hb
 ·have:g=b:=by simpa [Value.ownBlock] using hb
  subst this
  rcases Nat.lt_or_ge g w.heap.size with hlt | hge
  ·exact hlt
  ·rw[Array.getElem?_eq_none hge] at hh;cases hh
theorem Tryz.infoTok:(Tryz.prog.info? 55).map (fun i=>(i.zero,i.size,i.bytes))=some (some (.agg #[.int .i64 0,.string ⟨#[]⟩,.int .i64 0,.int .i64 0]),4,40):=by kernel_rfl
theorem jY {w:World} {base:Nat} {e:TypeId} {size n:Nat} {v:Value} {xs:List Value} (h:w.ownsRow base e size v n xs) {b:Nat} (hb:v.ownBlock=some b):base≤b:=by
 rcases h.2 with ⟨rfl,_⟩ | ⟨g,cap,cur,rfl,hg,hh,_⟩
 ·cases hb
 ·have:g=b:=by simpa [Value.ownBlock] using hb
  omega
theorem Mx {g m a t gg cap:Nat} {src:ByteArray} {v:Value} {o:Obj} {xs:List Value} {w w2 w3:World} (hg:g≤w2.heap.size) (hbel:Below g w w2) (hgrow:(w2.alloc o).drew.grownBy w3 v.ownBlock)
  (hb3:aC w3 g 138 #[.string src,.int .i64 a,v]) (hown:w3.ownsRow g 55 4 (.slice (some ⟨gg,0,none⟩) (m+1) cap) (m+1) xs) (_hvg:v.ownBlock≠some g)
  {ys:List Value} (Ux:w2.ownsRow g 55 4 v m ys) :
  aC ((w3.setCell ⟨g,2,none⟩ (.slice (some ⟨gg,0,none⟩) (m+1) cap)).setCell ⟨g,1,none⟩ (.int .i64 ((a:Int)+(t:Int)))) g 138 #[.string src,.int .i64 ((a+t:Nat):Int),.slice (some ⟨gg,0,none⟩) (m+1) cap]∧
  ((w3.setCell ⟨g,2,none⟩ (.slice (some ⟨gg,0,none⟩) (m+1) cap)).setCell ⟨g,1,none⟩ (.int .i64 ((a:Int)+(t:Int)))).ownsRow g 55 4 (.slice (some ⟨gg,0,none⟩) (m+1) cap) (m+1) xs∧
  Below g w ((w3.setCell ⟨g,2,none⟩ (.slice (some ⟨gg,0,none⟩) (m+1) cap)).setCell ⟨g,1,none⟩ (.int .i64 ((a:Int)+(t:Int)))):=by
 have hne:=own_ne hown hb3 (by decide);refine ⟨?_,?_,?_⟩
 ·have:=(hb3.set 2 (.slice (some ⟨gg,0,none⟩) (m+1) cap)).set 1 (.int .i64 ((a:Int)+(t:Int)));simpa using this
 ·exact dZ (dZ hown hne _) hne _
 ·refine (Below.setCell (Below.setCell ?_ (show g≤(⟨g,2,none⟩:Addr).block from Nat.le_refl g) _) (show g≤(⟨g,1,none⟩:Addr).block from Nat.le_refl g) _);refine hbel.trans ?_;refine Below.grown (((Below.refl _ _).alloc hg o).drew) hgrow (by simp;omega) ?_;intro k hk;exact jY Ux hk
theorem DX (g a m:Nat) (src text s:ByteArray) (k n p:Int) (v:Value) (xs:List Value) (w:World)
  (hblk:aC w g 138 #[.string src,.int .i64 a,v]) (hown:w.ownsRow g 55 4 v m xs) (hm:m≤65536) (ha:a+text.size≤65536) (hs:s.size≤maxLen)
  (hv:Lx.valid ⟨k,s.data.toList,n,p⟩=true) :
  Calls Tryz.prog 153 #[.pointer (some ⟨g,0,none⟩),.string text,.agg #[.int .i64 k,.string s,.int .i64 n,.int .i64 p]] w fun e w'=>
   e = .returned (.tuple #[])∧∃ v',aC w' g 138 #[.string src,.int .i64 (a+text.size:Nat),v']∧w'.ownsRow g 55 4 v' (m+1) (xs++[.int .i64 k,.string s,.int .i64 n,.int .i64 a])∧Below g w w':=by
 obtain ⟨i0,hi0,hz0,hz1,hz2⟩:=info_parts Tryz.infoTok;have hlt:=hblk.lt;have hval:=DY k n p s (w.alloc (.cells #[.int .i64 k,.string s,.int .i64 n,.int .i64 p] 55)) hs;rw[hv] at hval;have wJ:=Lh hval;clear hval hv;have qJ:=Lh hblk;clear hblk;go_enter Tryz.func153,Tryz.ntmps153;go_wp2_with (go_at_call 131;refine (wJ.out).mono ?_)
 rintro e w1 ⟨rfl,hb⟩;have hb1:aC w1 g 138 #[.string src,.int .i64 a,v]:=((qJ.out).alloc _).below hb (by simp;omega);have hbx:aC w1 w.heap.size 55 #[.int .i64 k,.string s,.int .i64 n,.int .i64 p]:=(aC.new w _ _).below hb (by simp);have hown1:w1.ownsRow g 55 4 v m xs:=own_below (hown.alloc _) hb;have hsz1:w.heap.size+1≤w1.heap.size:=by have:=hb.size;simpa using this
 have OZ:Below g w w1:=((Below.refl _ _).alloc (by omega) _).trans (hb.mono (by simp;omega));have c0:=hb1.cell 0;have c1:=hb1.cell 1;have c2:=hb1.cell 2;have f1:=hb1.free 1;have f2:=hb1.free 2;have x0:=hbx.cell 0;have x1:=hbx.cell 1;have x2:=hbx.cell 2;have x3:=hbx.cell 3;have xf:=hbx.free 3;simp at c0 c1 c2 x0 x1 x2 x3;have Hb:=Lh hb;have Hb1:=Lh hb1;have kJ:=Lh hbx;have O1:=Lh OZ;clear hb hb1 hbx OZ;have X0:g≠w.heap.size:=by omega
 go_wp2;obtain ⟨w2,hw2⟩:∃ w2,w2=w1.setCell ⟨w.heap.size,3,none⟩ (.int .i64 a):=⟨_,rfl⟩
 rw[←hw2];have hb2:aC w2 g 138 #[.string src,.int .i64 a,v]:=by rw [hw2];exact (Hb1.out).far X0 _
 have GI:aC w2 w.heap.size 55 #[.int .i64 k,.string s,.int .i64 n,.int .i64 a]:=by rw [hw2];exact (kJ.out).set 3 _
 have hown2:w2.ownsRow g 55 4 v m xs:=by
  rw[hw2];refine dZ hown1 ?_ _;intro hown0;have:=kY hown hown0;simp at this
 have yY:Below g w w2:=by rw [hw2];exact (O1.out).setCell (show g≤w.heap.size by omega) _
 have hsz2:w.heap.size+1≤w2.heap.size:=by rw [hw2];simpa [World.setCell] using hsz1
 clear hw2 c0 c1 c2 f1 f2 x0 x1 x2 x3 xf hown1 hsz1;have c0:=hb2.cell 0;have c1:=hb2.cell 1;have c2:=hb2.cell 2;have f1:=hb2.free 1;have f2:=hb2.free 2;have x0:=GI.cell 0;have x1:=GI.cell 1;have x2:=GI.cell 2;have x3:=GI.cell 3;simp at c0 c1 c2 x0 x1 x2 x3;have hvg:=own_ne hown2 hb2 (by decide);have Hb2:=Lh hb2;have q17:=Lh GI;have Uy:=Lh yY;clear hb2 GI yY;clear w1 Hb Hb1 kJ O1;have c2':=((Hb2.out).alloc (.cells #[.int .i64 k,.string s,.int .i64 n,.int .i64 a] 55)).cell 2;simp at c2'
 go_region_law (refine step_append_lies _ rfl _ _ _ rfl g 55 i0 _ 4 40 Tryz.underlying51 hi0 hz0 hz1 hz2 rfl (by omega) v m xs rfl ((hown2.alloc _).drew) ⟨w2.heap.size,0,none⟩ 1 1 [.int .i64 k,.string s,.int .i64 n,.int .i64 a] rfl rfl (World.news_of_block (cs:=#[.int .i64 k,.string s,.int .i64 n,.int .i64 a]) (t:=55) (fr:=(0,0)) (heap_alloc_new w2 _)) (by simp [Value.oneCell']) (by omega) (by unfold maxLen;omega) (by omega) (by simp;omega) (w2.heap.size+1) (by simp) ?_;intro gg cap w3 hown3 hgrow3 qX hlt3;have Hb3:=Lh ((((Hb2.out).alloc (.cells #[.int .i64 k,.string s,.int .i64 n,.int .i64 a] 55)).drew).grown hgrow3 hvg);have c3:=Hb3.out.cell 2;have f3:=Hb3.out.free 2;have d3:=Hb3.out.cell 1;have e3:=Hb3.out.free 1;simp at c3 d3)
 all_goals go_wp2
 all_goals go_end0
 all_goals exact ⟨rfl,.slice (some ⟨gg,0,none⟩) (m+1) cap,Mx (by omega) Uy.out hgrow3 Hb3.out hown3 hvg hown2⟩
def kK (a:Nat) (e:Ending):Prop:=e = .panicked [{ v:=.iface 131 (.int .i64 a),recovered:=false }]
theorem Fq (g a:Nat) (src text s:ByteArray) (k n p:Int) (v:Value) (w:World)
  (hblk:aC w g 138 #[.string src,.int .i64 a,v]) (hs:s.size≤maxLen)
  (hv:Lx.valid ⟨k,s.data.toList,n,p⟩=false) :
  Calls Tryz.prog 153 #[.pointer (some ⟨g,0,none⟩),.string text,.agg #[.int .i64 k,.string s,.int .i64 n,.int .i64 p]] w fun e w'=>kK a e∧Below w.heap.size w w':=by
 have hval:=DY k n p s (w.alloc (.cells #[.int .i64 k,.string s,.int .i64 n,.int .i64 p] 55)) hs;rw[hv] at hval;have wJ:=Lh hval;clear hval hv;have hlt:=hblk.lt;have qJ:=Lh hblk;clear hblk;go_enter Tryz.func153,Tryz.ntmps153;go_wp2_with (go_at_call 131;refine (wJ.out).mono ?_)
 rintro e w1 ⟨rfl,hb⟩;have hb1:aC w1 g 138 #[.string src,.int .i64 a,v]:=((qJ.out).alloc _).below hb (by simp;omega);have c1:=hb1.cell 1;simp at c1;have Hb:=Lh hb;clear hb hb1;go_wp2;refine ⟨rfl,rfl,?_⟩;exact ((Below.refl _ _).alloc (Nat.le_refl _) _).trans (Hb.out.mono (by simp))
theorem Ju (g a:Nat) (src:ByteArray) (v:Value) (w:World) (hblk:aC w g 138 #[.string src,.int .i64 a,v]) :
  Calls Tryz.prog 76 #[.pointer (some ⟨g,0,none⟩)] w fun e w'=>kK a e∧w=w':=by
 have c1:=hblk.cell 1;simp at c1;go_enter Tryz.func76,Tryz.ntmps76;go_wp2;exact ⟨rfl,rfl,rfl⟩
end Go.Proofs.YtjonaidancomgaaGreatDoor
namespace Go.Proofs.YtjonaidancomgaaGreatDoor
open Go.RowKit
def eZ (w:World) (b o:Nat) (cs:List Value):Prop:=∀ j v,cs[j]?=some v→w.cell? ⟨b,o+j,none⟩=some v
def bB (x:List UInt8):Value:=.string (Lx.bs x)
def aT (n:Int):Value:=.int .i64 n
structure Row {α : Type} (w : World) (S : Nat → Prop) (A : Option Addr) (sz : Nat) (P : α → List Value → Prop) (l : List α) : Prop where
 at_:∀ k x,l[k]?=some x→∃ b o cs,A=some ⟨b,o,none⟩∧S b∧P x cs∧eZ w b (o+k*sz) cs
 len:l.length≤140737488351232
mutual
def aB (w:World) (S:Nat→Prop):Sx.Rule→List Value→Prop
 | .mk op co nm n d ks,cs=>∃ A c,cs = [aT op,aT co,bB nm,aT n,aT d,.slice A ks.length c]∧nm.length≤140737488351232∧ks.length≤140737488351232∧dP w S A 0 ks
def dP (w:World) (S:Nat→Prop):Option Addr→Nat→List Sx.Rule→Prop
 | _,_,[]=>True
 | A,k,r::rs=>(∃ b o cs,A=some ⟨b,o,none⟩∧S b∧aB w S r cs∧eZ w b (o+k*6) cs)∧dP w S A (k+1) rs
end
theorem eZ.keep {w w':World} {b o:Nat} {cs:List Value} (h:eZ w b o cs) (hb:∀ i,w'.cell? ⟨b,i,none⟩=w.cell? ⟨b,i,none⟩):eZ w' b o cs:=fun j v hj=>(hb _).trans (h j v hj)
mutual
theorem aB.keep {w w':World} {S S':Nat→Prop} (hS:∀ b,S b→S' b∧∀ i,w'.cell? ⟨b,i,none⟩=w.cell? ⟨b,i,none⟩):∀ (r:Sx.Rule) (cs:List Value),aB w S r cs→aB w' S' r cs
 | .mk op co nm n d ks,cs,h=>by
  rw[aB] at h ⊢;obtain ⟨A,c,h1,h2,h3,h4⟩:=h;exact ⟨A,c,h1,h2,h3,dP.keep hS A 0 ks h4⟩
theorem dP.keep {w w':World} {S S':Nat→Prop} (hS:∀ b,S b→S' b∧∀ i,w'.cell? ⟨b,i,none⟩=w.cell? ⟨b,i,none⟩):∀ (A:Option Addr) (k:Nat) (rs:List Sx.Rule),dP w S A k rs→dP w' S' A k rs
 | _,_,[],_=>by rw [dP];trivial
 | A,k,r::rs,h=>by
  rw[dP] at h ⊢;obtain ⟨⟨b,o,cs,h1,h2,h3,h4⟩,h5⟩:=h;exact ⟨⟨b,o,cs,h1,(hS b h2).1,aB.keep hS r cs h3,h4.keep (hS b h2).2⟩,dP.keep hS A (k+1) rs h5⟩
end
theorem dP.get {w:World} {S:Nat→Prop} : ∀ {A:Option Addr} {k:Nat} {rs:List Sx.Rule},dP w S A k rs→∀ i x,rs[i]?=some x→∃ b o cs,A=some ⟨b,o,none⟩∧S b∧aB w S x cs∧eZ w b (o+(k+i)*6) cs
 | _,_,[],_,i,x,hi=>by simp at hi
 | A,k,r::rs,h,i,x,hi=>by
  rw[dP] at h;cases i with
  | zero=>
   obtain rfl:r=x:=by simpa using hi
   exact h.1
  | succ i=>
   have:=dP.get h.2 i x (by simpa using hi);rw[show k+1+i=k+(i+1) by omega] at this;exact this
theorem dP.mk {w:World} {S:Nat→Prop} : ∀ {A:Option Addr} {k:Nat} {rs:List Sx.Rule},(∀ i x,rs[i]?=some x→∃ b o cs,A=some ⟨b,o,none⟩∧S b∧aB w S x cs∧eZ w b (o+(k+i)*6) cs)→dP w S A k rs
 | _,_,[],_=>by rw [dP];trivial
 | A,k,r::rs,h=>by
  rw[dP];refine ⟨h 0 r rfl,dP.mk fun i x hi=>?_⟩;have:=h (i+1) x (by simpa using hi);rw[show k+(i+1)=k+1+i by omega] at this;exact this
theorem kZ {w:World} {S:Nat→Prop} {A:Option Addr} {rs:List Sx.Rule} : dP w S A 0 rs↔∀ i x,rs[i]?=some x→∃ b o cs,A=some ⟨b,o,none⟩∧S b∧aB w S x cs∧eZ w b (o+i*6) cs:=
 ⟨fun h i x hi=>by have:=h.get i x hi;rwa [Nat.zero_add] at this,fun h=>dP.mk fun i x hi=>by rw [Nat.zero_add];exact h i x hi⟩
theorem aB.length {w:World} {S:Nat→Prop} {r:Sx.Rule} {cs:List Value} (h:aB w S r cs):cs.length=6:=by
 cases r;rw[aB] at h;obtain ⟨A,c,rfl,_⟩:=h;rfl
theorem Row.keep {α:Type} {w w':World} {S S':Nat→Prop} {A:Option Addr} {sz:Nat} {P P':α→List Value→Prop} {l:List α} (h:Row w S A sz P l) (hS:∀ b,S b→S' b∧∀ i,w'.cell? ⟨b,i,none⟩=w.cell? ⟨b,i,none⟩) (hP:∀ x∈l,∀ cs,P x cs→P' x cs):Row w' S' A sz P' l:=
 ⟨fun k x hk=>by
  obtain ⟨b,o,cs,h1,h2,h3,h4⟩:=h.at_ k x hk;exact ⟨b,o,cs,h1,(hS b h2).1,hP x (List.mem_of_getElem? hk) cs h3,h4.keep (hS b h2).2⟩,h.len⟩
theorem Row.nil {α:Type} (w:World) (S:Nat→Prop) (A:Option Addr) (sz:Nat) (P:α→List Value→Prop):Row w S A sz P []:=⟨fun k x h=>by simp at h,by simp⟩
def aV (w:World) (S:Nat→Prop) (x:Sx.Course) (cs:List Value):Prop:=
 ∃ cn cb,cs = [bB x.name,aT x.number,aT x.aU,aT x.rep]++cn++cb∧x.name.length≤140737488351232∧aB w S x.need cn∧aB w S x.bar cb
def fq (x:Sx.Pair) (cs:List Value):Prop:=cs = [bB x.a,bB x.b,aT x.x,aT x.y]∧x.a.length≤140737488351232∧x.b.length≤140737488351232
def lT {α:Type} (f:α→Value) (x:α) (cs:List Value):Prop:=cs = [f x]
def qM (x:List UInt8) (cs:List Value):Prop:=cs = [bB x]∧x.length≤140737488351232
def bW (w:World) (S:Nat→Prop) (x:Sx.iK) (cs:List Value):Prop:=
 ∃ A c B d,cs = [bB x.name,aT x.aU,aT x.gX,.bool x.home,.slice A x.names.length c,.slice B x.froms.length d]∧x.name.length≤140737488351232∧Row w S A 1 qM x.names∧Row w S B 1 (lT aT) x.froms
def bS (w:World) (S:Nat→Prop) (x:Sx.Prog) (cs:List Value):Prop:=
 ∃ A c,cs = [bB x.name,aT x.number,aT x.uses,aT x.gD,aT x.mean.num,aT x.mean.den,.slice A x.reqs.length c]∧x.name.length≤140737488351232∧Row w S A 6 (bW w S) x.reqs
def eu (x:Sx.Cls) (cs:List Value):Prop:=cs = [bB x.name,aT x.gD,aT x.mean.num,aT x.mean.den]∧x.name.length≤140737488351232
def gG (x:Sx.tL) (cs:List Value):Prop:=cs = [bB x.name,aT x.aU]∧x.name.length≤140737488351232
def bH (x:Sx.Clause) (cs:List Value):Prop:=cs = [aT x.kind,aT x.gH,aT x.action,aT x.BD]
def bE (w:World) (S:Nat→Prop) (x:Sx.dh) (cs:List Value):Prop:=
 ∃ A0 c0 A1 c1 A2 c2 A3 c3 A4 c4 A5 c5 A6 c6,cs = [.slice A0 x.courses.length c0,.slice A1 x.same.length c1,.slice A2 x.aS.length c2,.slice A3 x.classes.length c3,.slice A4 x.bZ.length c4,.slice A5 x.aJ.length c5,.slice A6 x.clauses.length c6]∧
  Row w S A0 16 (aV w S) x.courses∧Row w S A1 4 fq x.same∧Row w S A2 7 (bS w S) x.aS∧Row w S A3 4 eu x.classes∧Row w S A4 2 gG x.bZ∧Row w S A5 4 eu x.aJ∧Row w S A6 4 bH x.clauses
section
variable {w w' : World} {S S' : Nat → Prop} (hS : ∀ b, S b → S' b ∧ ∀ i, w'.cell? ⟨b, i, none⟩ = w.cell? ⟨b, i, none⟩)
include hS
theorem aV.keep {x:Sx.Course} {cs:List Value} (h:aV w S x cs):aV w' S' x cs:=by
 obtain ⟨cn,cb,h1,h2,h3,h4⟩:=h;exact ⟨cn,cb,h1,h2,aB.keep hS _ _ h3,aB.keep hS _ _ h4⟩
theorem bW.keep {x:Sx.iK} {cs:List Value} (h:bW w S x cs):bW w' S' x cs:=by
 obtain ⟨A,c,B,d,h1,h2,h3,h4⟩:=h;exact ⟨A,c,B,d,h1,h2,h3.keep hS fun _ _ _ h=>h,h4.keep hS fun _ _ _ h=>h⟩
theorem bS.keep {x:Sx.Prog} {cs:List Value} (h:bS w S x cs):bS w' S' x cs:=by
 obtain ⟨A,c,h1,h2,h3⟩:=h;exact ⟨A,c,h1,h2,h3.keep hS fun _ _ _ h=>bW.keep hS h⟩
theorem bE.keep {x:Sx.dh} {cs:List Value} (h:bE w S x cs):bE w' S' x cs:=by
 obtain ⟨A0,c0,A1,c1,A2,c2,A3,c3,A4,c4,A5,c5,A6,c6,h0,h1,h2,h3,h4,h5,h6,h7⟩:=h;exact ⟨A0,c0,A1,c1,A2,c2,A3,c3,A4,c4,A5,c5,A6,c6,h0,h1.keep hS fun _ _ _ h=>aV.keep hS h,h2.keep hS fun _ _ _ h=>h,h3.keep hS fun _ _ _ h=>bS.keep hS h,h4.keep hS fun _ _ _ h=>h,h5.keep hS fun _ _ _ h=>h,h6.keep hS fun _ _ _ h=>h,h7.keep hS fun _ _ _ h=>h⟩
end
end Go.Proofs.YtjonaidancomgaaGreatDoor
namespace Go.Proofs.YtjonaidancomgaaGreatDoor
open Go.RowKit
open Lx (Tok)
structure Scan (g : Nat) (src : ByteArray) (a : Nat) (l : List Tok) (w : World) : Prop where
 st:∃ v,aC w g 138 #[.string src,.int .i64 a,v]∧w.ownsRow g 55 4 v l.length (l.flatMap Tok.cells)
 few:l.length≤a
 at_:a≤src.size
 len:src.size≤65536
theorem Qb (w:World) (zs:List Int) (cs:Array Value) (h:cs=(zs.map (Value.int .i64)).toArray):∀ j,j < zs.length→(w.alloc (.cells cs 3)).cell? ⟨w.heap.size,0+j,none⟩=some (.int .i64 (zs.getD j 0)):=by
 intro j hj;have:=(aC.new w 3 cs).cell (0+j);rw[this,h];simp[hj]
def Ah (g:Nat) (src:ByteArray) (a:Nat) (w:World) (ok:Option (Nat × List Tok)) (e:Ending) (w':World):Prop:=
 match ok with
 | some (a',l')=>e = .returned (.tuple #[])∧Scan g src a' l' w'∧Below g w w'
 | none=>kK a e∧Below g w w'
theorem Jv (l:List Tok) (t:Tok):(l++[t]).flatMap Tok.cells=l.flatMap Tok.cells++t.cells:=by simp [List.flatMap_append]
theorem Lx.Jw (c:UInt8):[2,3,5].contains (Lx.cls c)=Lx.part c:=by
 rw[Lx.wO,Bool.eq_iff_iff];simp[or_assoc]
theorem Lx.DZ (c:UInt8):[3].contains (Lx.cls c)=Lx.figure c:=by
 have:Lx.figure c=true→Lx.letter c=false:=by
  rw[Lx.jv,Lx.nG];simp;omega
 rw[Bool.eq_iff_iff];unfold Lx.cls;cases h1:Lx.letter c <;> cases h2:Lx.figure c <;> simp_all <;> (repeat' split) <;> simp
theorem Lx.GJ (c:UInt8):[1].contains (Lx.cls c)=Lx.space c:=by
 have h3:Lx.space c=true→Lx.letter c=false:=by
  rw[Lx.p8,Lx.nG];simp;omega
 have h4:Lx.space c=true→Lx.figure c=false:=by
  rw[Lx.p8,Lx.jv];simp;omega
 have h5:Lx.space c=true→(c == 95)=false:=by
  rw[Lx.p8,Lx.Qc];simp;omega
 rw[Bool.eq_iff_iff];unfold Lx.cls;cases h1:Lx.letter c <;> cases h2:Lx.figure c <;> cases h6:c == 95 <;> cases h7:Lx.space c <;> simp_all <;> (repeat' split) <;> simp
theorem Lx.GK {zs:List Int} {p:UInt8→Bool} (h:∀ c,zs.contains (Lx.cls c)=p c) (l:List UInt8):Lx.wQ zs l=(l.takeWhile p).length:=by
 unfold Lx.wQ;rw[show (fun c=>zs.contains (Lx.cls c))=p from funext h]
theorem Lx.vV (p:UInt8→Bool):∀ l:List UInt8,l.take (l.takeWhile p).length=l.takeWhile p
 | []=>rfl
 | c::r=>by
  cases h:p c <;> simp [h,Lx.vV p r]
theorem Lx.D5 (p:UInt8→Bool):∀ l:List UInt8,(l.takeWhile p).all p=true
 | []=>rfl
 | c::r=>by cases h:p c <;> simp [h,-List.all_takeWhile,Lx.D5 p r]
theorem Lx.yZ (p:UInt8→Bool):∀ l:List UInt8,(l.takeWhile p).length≤l.length
 | []=>by simp
 | c::r=>by
  have:=Lx.yZ p r;cases h:p c <;> simp [h];omega
theorem Lx.ext_list (s:ByteArray) (a k:Nat):(s.extract a (a+k)).data.toList=(s.data.toList.drop a).take k:=by
 rw[Lib.extract_data];simp
theorem Lx.ext_size (s:ByteArray) (a k:Nat) (h:a+k≤s.size):(s.extract a (a+k)).size=k:=by
 rw[←Lx.bX,Lx.ext_list,List.length_take,List.length_drop,Lx.bX];omega
theorem Lx.Qd (p:UInt8→Bool) (s:ByteArray) (a:Nat):(s.extract a (a+((s.data.toList.drop a).takeWhile p).length)).data.toList=(s.data.toList.drop a).takeWhile p:=by
 rw[Lx.ext_list,Lx.vV]
theorem Jy (g a:Nat) (src:ByteArray) (v:Value) (zs:List Int) (p:UInt8→Bool) (w:World) (h:∀ c,zs.contains (Lx.cls c)=p c) (hblk:aC w g 138 #[.string src,.int .i64 a,v])
  (ha:a≤src.size) (hs:src.size≤65536) (hzl:zs.length≤100) (cs:Array Value) (hcs:cs=(zs.map (Value.int .i64)).toArray) (t:ByteArray) (ht:t.data.toList=(src.data.toList.drop a).takeWhile p) (m:Nat) (hm:m=zs.length) (c:Nat) :
  Calls Tryz.prog 152 #[.pointer (some ⟨g,0,none⟩),.slice (some ⟨w.heap.size,0,none⟩) m c] (w.alloc (.cells cs 3)) fun e w'=>
   e = .returned (.string t)∧∃ n,w'=(w.alloc (.cells cs 3)).drewN n:=by
 subst hm;have hb:=hblk.alloc (.cells cs 3);have h0:=hb.cell 0;have h1:=hb.cell 1;simp at h0 h1;refine (X5 g w.heap.size a c src zs _ h0 h1 (Qb w zs cs hcs) hzl ha hs).mono fun e w' ⟨he,hw⟩=>⟨?_,hw⟩
 rw[he,Lx.GK h];have e1:=Lx.Qd p src a
 congr 2
 rw[←ht] at e1 ⊢;rw[←Lx.BP t,←e1,Lx.BP,e1]
theorem ay {B:Nat} {a w:World} (h:Below B a w) (n:Nat):Below B a (w.drewN n):=⟨h.os,h.tape,h.output,h.size,h.block⟩
theorem own_drewN {w:World} {base:Nat} {e:TypeId} {size n:Nat} {v:Value} {xs:List Value} (h:w.ownsRow base e size v n xs) (k:Nat):(w.drewN k).ownsRow base e size v n xs:=h
theorem tV {g a:Nat} {src:ByteArray} {l:List Tok} {t:Tok} {v:Value} {w:World} {cs:List Value} (hb:aC w g 138 #[.string src,.int .i64 a,v]) (ho:w.ownsRow g 55 4 v (l.length+1) (l.flatMap Tok.cells++cs))
  (hf:l.length+1≤a) (ha:a≤src.size) (hl:src.size≤65536) (hc:cs=t.cells):Scan g src a (l++[t]) w:=
 ⟨⟨v,hb,by rw [Jv,←hc,List.length_append];exact ho⟩,by rw [List.length_append];exact hf,ha,hl⟩
def Lx.kL (t:List UInt8) (a:Nat) (l:List Tok):Option (Nat × List Tok):=if Lx.isName t then some (a+t.length,l++[⟨1,t,0,a⟩]) else none
theorem Qe (g a:Nat) (src:ByteArray) (l:List Tok) (w:World) (hS:Scan g src a l w) (t:ByteArray) (ht:t.data.toList=(src.data.toList.drop a).takeWhile Lx.part) (hpos:0 < t.size) :
  Calls Tryz.prog 78 #[.pointer (some ⟨g,0,none⟩)] w (Ah g src a w (Lx.kL t.data.toList a l)):=by
 obtain ⟨⟨v,hblk,hown⟩,gT,hat,hlen⟩:=hS;have hlt:=hblk.lt;have htl:a+t.size≤src.size:=by
  rw[←Lx.bX,ht];have:=Lx.yZ Lx.part (src.data.toList.drop a);rw[List.length_drop,Lx.bX] at this;omega
 have hrun:=Jy g a src v [2,3,5] Lx.part w Lx.Jw hblk hat hlen (by simp) _ rfl t ht 3 rfl 3;have Ai:=Lh hrun;have Ht:=Lh ht;clear hrun ht;have hbel:Below g w (w.alloc (.cells #[.int .i64 2,.int .i64 3,.int .i64 5] 3)):=(Below.refl _ _).alloc (by omega) _;have hb1:=hblk.alloc (.cells #[.int .i64 2,.int .i64 3,.int .i64 5] 3);have ho1:=hown.alloc (.cells #[.int .i64 2,.int .i64 3,.int .i64 5] 3);cases hn:Lx.isName t.data.toList
 ·have hv:Lx.valid ⟨1,t.data.toList,0,0⟩=false:=by rw [Lx.p9,hn];rfl
  have he:Lx.kL t.data.toList a l=none:=by unfold Lx.kL;rw[hn];rfl
  rw[he];have Hv:=Lh hv;have Hn:=Lh hn;clear hv he hn;go_enter Tryz.func78,Tryz.ntmps78;go_wp2_with fail;refine (Ai.out).mono ?_;rintro e w1 ⟨rfl,n,rfl⟩;go_wp2_with fail;refine (Fq g a src t t 1 0 0 v _ (hb1.drewN n) (by unfold maxLen;omega) Hv.out).mono ?_;rintro e w2 ⟨he,hb2⟩;unfold kK at he;subst he;refine ⟨rfl,rfl,(ay hbel n).trans (hb2.mono ?_)⟩;simp;omega
 ·have hv:Lx.valid ⟨1,t.data.toList,0,0⟩=true:=by rw [Lx.p9,hn];rfl
  have he:Lx.kL t.data.toList a l=some (a+t.size,l++[⟨1,t.data.toList,0,a⟩]):=by unfold Lx.kL;rw[hn,Lx.bX];rfl
  rw[he];have Hv:=Lh hv;have Hn:=Lh hn;clear hv he hn;go_enter Tryz.func78,Tryz.ntmps78;go_wp2_with fail;refine (Ai.out).mono ?_;rintro e w1 ⟨rfl,n,rfl⟩;go_wp2_with fail;refine (DX g a l.length src t t 1 0 0 v _ _ (hb1.drewN n) (own_drewN ho1 n) (by omega) (by omega) (by unfold maxLen;omega) Hv.out).mono ?_;rintro e w2 ⟨rfl,v2,hb2,ho2,yY⟩;go_wp2_with fail
  go_end0
  exact ⟨rfl,tV hb2 ho2 (by omega) (by omega) hlen (by rw [Lx.Jz (l:=t.data.toList) rfl];rfl),(ay hbel n).trans yY⟩
def Lx.nH (t:List UInt8) (a:Nat) (l:List Tok):Option (Nat × List Tok):=match Lx.number t with
 | some n=>some (a+t.length,l++[⟨2,[],n,a⟩])
 | none=>none
theorem JA (g a:Nat) (src:ByteArray) (l:List Tok) (w:World) (hS:Scan g src a l w) (he:Env w) (hg:10+1≤g) (t:ByteArray) (ht:t.data.toList=(src.data.toList.drop a).takeWhile Lx.figure) (hpos:0 < t.size) :
  Calls Tryz.prog 79 #[.pointer (some ⟨g,0,none⟩)] w (Ah g src a w (Lx.nH t.data.toList a l)):=by
 obtain ⟨⟨v,hblk,hown⟩,gT,hat,hlen⟩:=hS;have hlt:=hblk.lt;have htl:a+t.size≤src.size:=by
  rw[←Lx.bX,ht];have:=Lx.yZ Lx.figure (src.data.toList.drop a);rw[List.length_drop,Lx.bX] at this;omega
 have hrun:=Jy g a src v [3] Lx.figure w Lx.DZ hblk hat hlen (by simp) _ rfl t ht 1 rfl 1;have Ai:=Lh hrun;have Ht:=Lh ht;clear hrun ht;have hbel:Below g w (w.alloc (.cells #[.int .i64 3] 3)):=(Below.refl _ _).alloc (by omega) _;have hb1:=hblk.alloc (.cells #[.int .i64 3] 3);have ho1:=hown.alloc (.cells #[.int .i64 3] 3);have hf:t.data.toList.all Lx.figure=true:=by rw [Ht.out];exact Lx.D5 _ _
 have hne:t.data.toList≠[]:=fun e=>by have:=Lx.bX t;rw[e] at this;simp at this;omega
 by_cases hV:Lx.dD 0 t.data.toList < 9223372036854775808
 case neg=>
  have hr:=Lx.JB hf hne hV;have hn:Lx.nH t.data.toList a l=none:=by unfold Lx.nH;rw[Lx.D6 (by omega)]
  rw[hn];have hat:=fun W (hE:Env W)=>O4 t (by omega) W hE (.inr hr);rw[hr] at hat;have Uz:=Lh hat;have Hb1:=Lh hb1;clear hr hn hf hne hV hat hb1;go_enter Tryz.func79,Tryz.ntmps79;go_wp2_with fail;refine (Ai.out).mono ?_;rintro e w1 ⟨rfl,n,rfl⟩;go_wp2_with fail;refine (Uz.out _ (he.below (ay hbel n) hg)).mono ?_;rintro e w2 ⟨⟨num,N,T,rfl⟩,hb2⟩;have hb2':=(Hb1.out.drewN n).below hb2 (by simp;omega);have c1:=hb2'.cell 1;simp at c1;have Hb2:=Lh hb2;clear hb2 hb2';go_wp2_with fail;refine ⟨rfl,rfl,(ay hbel n).trans (Hb2.out.mono ?_)⟩;simp;omega
 have hr:=Lx.MB hf hne hV;have hat:=fun W (hE:Env W)=>O4 t (by omega) W hE (.inl ⟨_,hr⟩);rw[hr] at hat;have O5:=O6 (Lx.dD 0 t.data.toList) (by omega) (by omega);have hiv:Lib.itoa (Lx.dD 0 t.data.toList:Int)=Lib.decDigits (Lx.dD 0 t.data.toList):=by unfold Lib.itoa;rw[if_neg (by omega)];rfl
 rw[hiv] at O5;have hiff:=Lx.qN hf hne;obtain ⟨V,X6⟩:∃ V,V=Lx.dD 0 t.data.toList:=⟨_,rfl⟩
 have JC:Lx.nH t.data.toList a l=if V≤1099511627776∧Lx.plain t.data.toList then some (a+t.size,l++[⟨2,[],V,a⟩]) else none:=by
  unfold Lx.nH;rw[X6]
  split
  ·rename_i n hn;obtain ⟨h1,h2,h3⟩:=Lx.qY hn;rw[if_pos ⟨by omega,h3⟩,h1,Lx.bX]
  ·rename_i hn;rw[if_neg];rintro ⟨h1,h2⟩;rw[Lx.uI h1 h2] at hn;cases hn
 rw[←X6] at hat O5 hiff hV;rw[JC];have Uz:=Lh hat;have X7:=Lh O5;have UA:=Lh hiff;have Hb1:=Lh hb1;clear hr hat O5 hiv hiff X6 hf hne JC hb1;obtain ⟨D,hD⟩:∃ D:ByteArray,D=⟨(Lib.decDigits V).toArray⟩:=⟨_,rfl⟩
 have HD:=Lh hD;have Qf:Hid (∀ (w:World),Env w→Calls Tryz.prog 132 #[.int .i64 (V:Int)] w fun e w'=>e = .returned (.string D)∧Below w.heap.size w w'):=by
  have:=X7.out;rw[←hD] at this;exact Lh this
 have hDl:D.toList=Lib.decDigits V:=by rw [hD,ByteArray.toList_eq]
 have JD:t.toList=t.data.toList:=ByteArray.toList_eq t
 by_cases hp:Lx.plain t.data.toList
 case neg=>
  rw[if_neg (fun h=>hp h.2)];have hq:(D.toList == t.toList)=false:=by rw [hDl,JD,beq_eq_false_iff_ne];exact fun h=>hp (UA.out.1 h)
  clear hp hD hDl JD;go_enter Tryz.func79,Tryz.ntmps79;go_wp2_with fail;refine (Ai.out).mono ?_;rintro e w1 ⟨rfl,n,rfl⟩;go_wp2_with fail;refine (Uz.out _ (he.below (ay hbel n) hg)).mono ?_;rintro e w2 ⟨rfl,hb2⟩;have he2:=(he.below (ay hbel n) hg).next hb2;go_wp2_with fail;refine (Qf.out _ he2).mono ?_;rintro e w3 ⟨rfl,hb3⟩;have vE:=hb2.trans (hb3.mono hb2.size);have hbk:=(Hb1.out.drewN n).below vE (by simp;omega);have c1:=hbk.cell 1;simp at c1;have GL:=Lh vE;clear hb2 hb3 vE hbk he2;go_wp2_with fail;refine ⟨rfl,rfl,(ay hbel n).trans (GL.out.mono ?_)⟩
  simp;omega
 have hq:(D.toList == t.toList)=true:=by rw [hDl,JD,beq_iff_eq];exact UA.out.2 hp
 by_cases hV2:V≤1099511627776
 ·rw[if_pos ⟨hV2,hp⟩];have hv:Lx.valid ⟨2,(⟨#[]⟩:ByteArray).data.toList,V,0⟩=true:=by
   rw[Lx.qd];simp;omega
  have Hv:=Lh hv;have Hp:=Lh hp;clear hp hD hDl JD hv;go_enter Tryz.func79,Tryz.ntmps79;go_wp2_with fail;refine (Ai.out).mono ?_;rintro e w1 ⟨rfl,n,rfl⟩;go_wp2_with fail;refine (Uz.out _ (he.below (ay hbel n) hg)).mono ?_;rintro e w2 ⟨rfl,hb2⟩;have he2:=(he.below (ay hbel n) hg).next hb2;go_wp2_with fail;refine (Qf.out _ he2).mono ?_;rintro e w3 ⟨rfl,hb3⟩;have vE:=hb2.trans (hb3.mono hb2.size);have hbk:=(Hb1.out.drewN n).below vE (by simp;omega);have ho3:=own_below (own_drewN ho1 n) vE;have GL:=Lh vE;have X8:=Lh hbk;clear hb2 hb3 vE hbk he2;go_wp2_with fail
  refine (DX g a l.length src t ⟨#[]⟩ 2 V 0 v _ _ X8.out ho3 (by omega) (by omega) (show (0:Nat)≤maxLen from Nat.zero_le _) Hv.out).mono ?_;rintro e w4 ⟨rfl,v2,hb4,ho4,UC⟩;go_wp2_with fail
  go_end0
  exact ⟨rfl,tV hb4 ho4 (by omega) (by omega) hlen rfl,((ay hbel n).trans (GL.out.mono (by simp;omega))).trans UC⟩
 ·rw[if_neg (fun h=>hV2 h.1)];have hv:Lx.valid ⟨2,(⟨#[]⟩:ByteArray).data.toList,V,0⟩=false:=by
   rw[Lx.qd];simp;omega
  have Hv:=Lh hv;clear hp hD hDl JD hv;go_enter Tryz.func79,Tryz.ntmps79;go_wp2_with fail;refine (Ai.out).mono ?_;rintro e w1 ⟨rfl,n,rfl⟩;go_wp2_with fail;refine (Uz.out _ (he.below (ay hbel n) hg)).mono ?_;rintro e w2 ⟨rfl,hb2⟩;have he2:=(he.below (ay hbel n) hg).next hb2;go_wp2_with fail;refine (Qf.out _ he2).mono ?_;rintro e w3 ⟨rfl,hb3⟩;have vE:=hb2.trans (hb3.mono hb2.size);have hbk:=(Hb1.out.drewN n).below vE (by simp;omega);have GL:=Lh vE;have X8:=Lh hbk;clear hb2 hb3 vE hbk he2;go_wp2_with fail
  refine (Fq g a src t ⟨#[]⟩ 2 V 0 v _ X8.out (show (0:Nat)≤maxLen from Nat.zero_le _) Hv.out).mono ?_;rintro e w4 ⟨he,hb4⟩;unfold kK at he;subst he;refine ⟨rfl,rfl,((ay hbel n).trans (GL.out.mono (by simp;omega))).trans (hb4.mono ?_)⟩;have:=GL.out.size;simp at this;omega
theorem qZ {P:Program} {f:FuncId} {args:Array Value} {w:World} {n:Nat} {v:Value}
  (h:Calls P f args (w.drewN n) fun e w'=>e = .returned v∧w.drewN n=w'):Calls P f args (w.drewN n) fun e w''=>e = .returned v∧∃ m,w''=w.drewN m:=
 h.mono fun _ _ ⟨he,hm⟩=>⟨he,n,hm.symm⟩
theorem oH {P:Program} {f:FuncId} {args:Array Value} {w:World} {a n:Nat} {v:Value}
  (h:Calls P f args (w.drewN (a+n)) fun e w'=>e = .returned v∧w.drewN (a+n)=w') :
  Calls P f args (w.drewN (a+n)) fun e w''=>e = .returned v∧∃ m,w''=w.drewN (a+m):=
 h.mono fun _ _ ⟨he,hm⟩=>⟨he,n,hm.symm⟩
theorem tX {g a k:Nat} {src:ByteArray} {l:List Tok} {v:Value} {w:World} (hb:aC w g 138 #[.string src,.int .i64 a,v]) (ho:w.ownsRow g 55 4 v l.length (l.flatMap Tok.cells))
  (hf:l.length≤a) (ha:a+k≤src.size) (hl:src.size≤65536) (x:Int) (hx:x=((a+k:Nat):Int)):Scan g src (a+k) l (w.setCell ⟨g,1,none⟩ (.int .i64 x)):=by
 subst hx;have:=hb.set 1 (.int .i64 ((a+k:Nat):Int));exact ⟨⟨v,by simpa using this,dZ ho (own_ne ho hb (by decide)) _⟩,by omega,ha,hl⟩
theorem MC (g a:Nat) (src:ByteArray) (l:List Tok) (w:World) (hS:Scan g src a l w) (t:ByteArray) (ht:t.data.toList=(src.data.toList.drop a).takeWhile Lx.space) :
  Calls Tryz.prog 77 #[.pointer (some ⟨g,0,none⟩)] w (Ah g src a w (some (a+t.size,l))):=by
 obtain ⟨⟨v,hblk,hown⟩,gT,hat,hlen⟩:=hS;have hlt:=hblk.lt;have htl:a+t.size≤src.size:=by
  rw[←Lx.bX,ht];have:=Lx.yZ Lx.space (src.data.toList.drop a);rw[List.length_drop,Lx.bX] at this;omega
 have hrun:=fun W (hW:aC W g 138 #[.string src,.int .i64 a,v])=>Jy g a src v [1] Lx.space W Lx.GJ hW hat hlen (by simp) #[.int .i64 1] rfl t ht 1 rfl 1;have Ai:=Lh hrun;have Ht:=Lh ht;clear hrun ht;have c1:=hblk.cell 1;have f1:=hblk.free 1;simp at c1;have hne:g≠w.heap.size:=by omega
 have d1:=(hblk.alloc (.cells #[.int .i64 1] 3)).cell 1;have e1:=(hblk.alloc (.cells #[.int .i64 1] 3)).free 1;simp at d1;have qJ:=Lh hblk;clear hblk;go_enter Tryz.func77,Tryz.ntmps77;go_wp2_with fail
 go_region_with (go_at_call 152;refine (Ai.out _ (aC.drew qJ.out)).mono ?_;rintro e w1 ⟨rfl,n,rfl⟩)
 all_goals go_end0
 all_goals exact ⟨rfl,tX ((qJ.out.alloc (.cells #[.int .i64 1] 3)).drewN (1+n)) (own_drewN (hown.alloc (.cells #[.int .i64 1] 3)) (1+n)) gT htl hlen _ (by rw [IntWalk.i64_in _ (by omega)];omega),(ay ((Below.refl _ _).alloc (by omega) _) (1+n)).setCell (show g≤(⟨g,1,none⟩:Addr).block from Nat.le_refl g) _⟩
theorem Lx.ME (l:List UInt8) (o:Nat) (h:Lib.indexByte l 10=o):(l.takeWhile (· != 10)).length=o:=by
 obtain ⟨h1,h2⟩:=Lib.indexByte_some h;have hlt:o < l.length:=(List.getElem?_eq_some_iff.1 h1).1;refine Lx.Aj _ l o (by omega) (fun j hj hjo=>?_) (fun hh=>?_)
 ·have:=h2 j hjo;rw[List.getElem?_eq_getElem hj] at this;simpa using this
 ·rw[List.getElem?_eq_getElem hlt] at h1;simpa using Option.some.inj h1
theorem Lx.MG (l:List UInt8) (h:Lib.indexByte l 10 < 0):(l.takeWhile (· != 10)).length=l.length:=by
 have hge:=Lib.indexByte_ge l 10;have h2:=Lib.indexByte_none (l:=l) (c:=10) (by omega);refine Lx.Aj _ l l.length (by omega) (fun j hj hjo=>?_) (fun hh=>absurd hh (by omega));have:=h2 j;rw[List.getElem?_eq_getElem hj] at this;simpa using this
theorem Lx.BQ (l:List UInt8):Lib.hasPrefix l [47,47]=Lx.comment l:=by
 rw[Bool.eq_iff_iff]
 match l with
 | []=>simp [Lx.comment,Lib.hasPrefix]
 | [c]=>simp [Lx.comment,Lib.hasPrefix]
 | c::d::r=>simp only [Lx.comment,Lib.hasPrefix,List.isPrefixOf,List.head?_cons,Bool.and_true,Bool.and_eq_true,beq_iff_eq,Option.some.injEq];exact ⟨fun ⟨h1,h2⟩=>⟨h1.symm,h2.symm⟩,fun ⟨h1,h2⟩=>⟨h1.symm,h2.symm⟩⟩
def Lx.kM (rest:List UInt8) (a:Nat) (l:List Tok):Option (Nat × List Tok):=
 if Lx.comment rest then some (a+(rest.takeWhile (· != 10)).length,l) else some (a+1,l++[⟨3,rest.take 1,0,a⟩])
theorem Qg (g a:Nat) (src:ByteArray) (l:List Tok) (w:World) (hS:Scan g src a l w) (ha:a < src.size) (hc:Lx.sign src[a]=true) :
  Calls Tryz.prog 80 #[.pointer (some ⟨g,0,none⟩)] w (Ah g src a w (Lx.kM (src.data.toList.drop a) a l)):=by
 obtain ⟨⟨v,hblk,hown⟩,gT,hat,hlen⟩:=hS;have hlt:=hblk.lt;obtain ⟨R,hR⟩:∃ R,R=src.extract a src.size:=⟨_,rfl⟩
 have hRl:R.data.toList=src.data.toList.drop a:=by rw [hR,Lib.extract_to_end]
 have c0:=hblk.cell 0;have c1:=hblk.cell 1;have f1:=hblk.free 1;simp at c0 c1;have qJ:=Lh hblk;clear hblk;have Hc:=Lh hc;clear hc;have hpre:∀ W,Calls Tryz.prog 155 #[.string R,.string ⟨#[47,47]⟩] W fun e w'=>e = .returned (.bool (Lx.comment (src.data.toList.drop a)))∧W=w':=fun W=>by
  have:=D7 R ⟨#[47,47]⟩ W;rw[hRl] at this;rw[←Lx.BQ];exact this
 have BL:=Lh hpre;clear hpre;rw[←hRl] at BL ⊢;have HR:=Lh hR;have HRl:=Lh hRl;have hRs:R.size=src.size - a:=by rw [←Lx.bX,hRl,List.length_drop,Lx.bX]
 have HRs:=Lh hRs;have hRe:src.extract a src.size=R:=hR.symm;clear hR hRl hRs;cases hcom:Lx.comment R.data.toList
 case true=>
  rw[hcom] at BL;have hix:∀ W,Calls Tryz.prog 156 #[.string R,.int .u8 10] W fun e w'=>e = .returned (.int .i64 (Lib.indexByte R.data.toList 10))∧W=w':=fun W=>wR R 10 W;have hse:Lx.kM R.data.toList a l=some (a+(R.data.toList.takeWhile (· != 10)).length,l):=by unfold Lx.kM;rw[hcom];rfl
  rw[hse]
  by_cases hn:Lib.indexByte R.data.toList 10 < 0
  ·rw[Lx.MG _ hn,Lx.bX];obtain ⟨x,hx⟩:∃ x,x=Lib.indexByte R.data.toList 10:=⟨_,rfl⟩
   rw[←hx] at hix hn;have X9:=Lh hix;clear hix hx hse hcom;go_enter Tryz.func80,Tryz.ntmps80;go_wp2_with fail
   go_quiet ((go_at_call 155;exact qZ (BL.out _)))
   go_wp2_with fail
   go_quiet ((go_at_call 156;exact oH (X9.out _)))
   go_wp2_with fail
   go_end0
   have hrs:=HRs.out;exact ⟨rfl,tX (qJ.out.drewN _) (own_drewN hown _) gT (by omega) hlen _ (by omega),(ay (Below.refl _ _) _).setCell (show g≤(⟨g,1,none⟩:Addr).block from Nat.le_refl g) _⟩
  ·obtain ⟨o,ho⟩:=Int.eq_ofNat_of_zero_le (show 0≤Lib.indexByte R.data.toList 10 by omega);rw[Lx.ME _ o ho];have hol:o≤R.size:=by have:=(List.getElem?_eq_some_iff.1 (Lib.indexByte_some ho).1).1;rw[Lx.bX] at this;omega
   have Ya:=HRs.out;rw[ho] at hix;have X9:=Lh hix;clear hix hse hcom hn ho;have q18:a+o≤src.size:=by omega
   clear Ya;go_enter Tryz.func80,Tryz.ntmps80;go_wp2_with fail
   go_quiet ((go_at_call 155;exact qZ (BL.out _)))
   go_wp2_with fail
   go_quiet ((go_at_call 156;exact oH (X9.out _)))
   go_wp2_with fail
   go_end0
   exact ⟨rfl,tX (qJ.out.drewN _) (own_drewN hown _) gT (by omega) hlen _ (by omega),(ay (Below.refl _ _) _).setCell (show g≤(⟨g,1,none⟩:Addr).block from Nat.le_refl g) _⟩
 case false=>
  rw[hcom] at BL;have hse:Lx.kM R.data.toList a l=some (a+1,l++[⟨3,R.data.toList.take 1,0,a⟩]):=by unfold Lx.kM;rw[hcom];rfl
  rw[hse];clear hcom hse;obtain ⟨t,ht⟩:∃ t,src.extract a (a+1)=t:=⟨_,rfl⟩
  have htl:t.data.toList=R.data.toList.take 1:=by rw [←ht,HRl.out,Lx.ext_list]
  have hts:t.size=1:=by rw [←ht,Lx.ext_size _ _ _ (by omega)]
  have ht0:t[0]'(by omega)=src[a]:=by
   rw[←Lx.wT t 0 (by omega),←Lx.wT src a ha];have:t.data.toList[0]?=src.data.toList[a]?:=by rw [htl,HRl.out];simp
   rw[List.getElem?_eq_getElem (by rw [Lx.bX];omega),List.getElem?_eq_getElem (by rw [Lx.bX];omega)] at this;exact Option.some.inj this
  have hv:Lx.valid ⟨3,t.data.toList,0,0⟩=true:=by
   rw[Lx.oI t 0 0 hts,ht0,Hc.out];rfl
  rw[←htl];have Hv:=Lh hv;have Hts:=Lh hts;have q19:1≤t.size:=by omega
  have q09:t.size≤1:=by omega
  clear htl hts ht0 hv;go_enter Tryz.func80,Tryz.ntmps80;go_wp2_with fail
  go_quiet ((go_at_call 155;exact qZ (BL.out _)))
  go_wp2_with fail
  go_quiet (fail)
  go_wp2_with fail;refine (DX g a l.length src t t 3 0 0 v _ _ (qJ.out.drewN _) (own_drewN hown _) (by omega) (by omega) (by unfold maxLen;omega) Hv.out).mono ?_;rintro e w2 ⟨rfl,v2,hb2,ho2,yY⟩;go_wp2_with fail
  go_end0
  refine ⟨rfl,?_,(ay (Below.refl _ _) _).trans yY⟩;have hs:=Hts.out;rw[hs] at hb2;exact tV hb2 ho2 (by omega) (by omega) hlen (by rw [Lx.Jz (l:=t.data.toList) rfl];rfl)
end Go.Proofs.YtjonaidancomgaaGreatDoor
