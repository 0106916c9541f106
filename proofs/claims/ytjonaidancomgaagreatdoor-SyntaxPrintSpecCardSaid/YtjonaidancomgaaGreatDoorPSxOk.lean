/- Parts of the proof, joined into one text: q2G, ZL, ZM, ZN, ZO. -/
import Derived.Test.YtjonaidancomgaaGreatDoorPLxI
set_option maxHeartbeats 2000000
set_option maxRecDepth 20000
namespace Go.Proofs.YtjonaidancomgaaGreatDoor
open Go.RowKit
theorem AJ (n a b:Int) (w:World):Calls Tryz.prog 119 #[.int .i64 n,.int .i64 a,.int .i64 b] w (ak (Sx.dX n a b) w):=by
 by_cases h:a≤n
 ·go_enter Tryz.func119,Tryz.ntmps119;go_wp2;go_ret;exact ⟨aj (by simp [Sx.dX,h]),Below.refl _ _⟩
 ·go_enter Tryz.func119,Tryz.ntmps119;go_wp2;go_ret;exact ⟨aj (by simp [Sx.dX];omega),Below.refl _ _⟩
theorem uj (x:List UInt8) (w:World) (hx:x.length≤140737488351232):Calls Tryz.prog 118 #[.string (Lx.bs x)] w (ak (Lx.isName x) w):=
 (Pd (Lx.bs x) w (by rw [Lx.jc];unfold maxLen;omega)).mono fun e w' ⟨h1,h2⟩=>by
  rw[Lx.aK] at h1;subst h2;exact ⟨h1,Below.refl _ _⟩
theorem uh (x:List UInt8) (n:Int) (w:World) (hx:x.length≤140737488351232):Calls Tryz.prog 116 #[.string (Lx.bs x),.int .i64 n] w (ak (Sx.bQ x n) w):=by
 have H1:=Lh (fun W=>AJ n 0 4095 W);have H2:=Lh (fun W=>uj x W hx);obtain ⟨R,hR⟩:∃ R,R=Sx.bQ x n:=⟨_,rfl⟩
 rw[←hR];unfold Sx.bQ at hR;have hbs:((Lx.bs x).toList == (⟨#[]⟩:ByteArray).toList)=x.isEmpty:=by rw [ByteArray.toList_eq,ByteArray.toList_eq,Lx.aK];cases x <;> rfl
 have fH:(Lx.bs x).toList.isEmpty=x.isEmpty:=by rw [ByteArray.toList_eq,Lx.aK]
 cases q1:Sx.dX n 0 4095 with
 | false=>
  rw[q1] at H1 hR;have HR:Hid (R=false):=Lh (by rw [hR];rfl);clear hR;go_enter Tryz.func116,Tryz.ntmps116;go_wp2_with fail;refine (H1.out _).mono ?_;rintro e w1 ⟨rfl,hb1⟩;have HB1:=Lh hb1;clear hb1;go_wp2_with fail;go_ret;exact ⟨aj HR.out.symm,HB1.out⟩
 | true=>
  rw[q1] at H1 hR;cases q2:x.isEmpty with
  | true=>
   rw[q2] at hbs fH hR;have HR:Hid (R=true):=Lh (by rw [hR];rfl);clear hR;go_enter Tryz.func116,Tryz.ntmps116;go_wp2_with fail;refine (H1.out _).mono ?_;rintro e w1 ⟨rfl,hb1⟩;have HB1:=Lh hb1;clear hb1;go_wp2_with fail;go_ret;exact ⟨aj HR.out.symm,HB1.out⟩
  | false=>
   rw[q2] at hbs fH hR;have HR:=Lh hR;clear hR;go_enter Tryz.func116,Tryz.ntmps116;go_wp2_with fail;refine (H1.out _).mono ?_;rintro e w1 ⟨rfl,hb1⟩;have HB1:=Lh hb1;clear hb1;go_wp2_with fail;refine (H2.out _).mono ?_;rintro e w2 ⟨rfl,hb2⟩;have HB2:=Lh (HB1.out.trans (hb2.mono HB1.out.size));clear hb2;go_wp2_with fail;go_ret;exact ⟨aj (by rw [HR.out];rfl),HB2.out⟩
def FR (z:Int) (w:World) (e:Ending) (w':World):Prop:=e = .returned (.int .i64 z)∧Below w.heap.size w w'
def Sx.bL.FT (r:Sx.bL):Bool:=decide (1≤r.den) && decide (r.den≤1073741824) && decide (-1073741824≤r.num) && decide (r.num≤1073741824) && decide (Int.gcd r.num r.den=1)
theorem ZP (n d:Int) (w:World):Calls Tryz.prog 193 #[.agg #[.int .i64 n,.int .i64 d]] w (FR (if Sx.bL.FT ⟨n,d⟩ then 0 else 50) w):=by
 obtain ⟨E,hE⟩:∃ E:Int,E=if Sx.bL.FT ⟨n,d⟩ then 0 else 50:=⟨_,rfl⟩
 rw[←hE];obtain ⟨R,hR⟩:∃ R,R=Sx.bL.FT ⟨n,d⟩:=⟨_,rfl⟩
 rw[←hR] at hE;have HE:=Lh hE;clear hE;unfold Sx.bL.FT at hR;simp only at hR;have hb0:Below w.heap.size w (w.alloc (.cells #[.int .i64 n,.int .i64 d] 75)):=(Below.refl _ _).alloc (Nat.le_refl _) _;have HB0:=Lh hb0;clear hb0
 by_cases g1:1≤d
 case neg=>
  have HR:Hid (R=false):=Lh (by rw [hR];simp[g1]);have q1:decide (d < 1)=true:=decide_eq_true (by omega);clear hR g1;go_enter Tryz.func193,Tryz.ntmps193;go_wp2_with fail;go_ret;exact ⟨bU (by rw [HE.out,HR.out];rfl),HB0.out⟩
 have q1:decide (d < 1)=false:=decide_eq_false (by omega)
 by_cases g2:d≤1073741824
 case neg=>
  have HR:Hid (R=false):=Lh (by rw [hR];simp[g2]);have q2:decide (1073741824 < d)=true:=decide_eq_true (by omega);clear hR g2 g1;go_enter Tryz.func193,Tryz.ntmps193;go_wp2_with fail;go_ret;exact ⟨bU (by rw [HE.out,HR.out];rfl),HB0.out⟩
 have q2:decide (1073741824 < d)=false:=decide_eq_false (by omega)
 by_cases g3:-1073741824≤n
 case neg=>
  have HR:Hid (R=false):=Lh (by rw [hR];simp[g3]);have q3:decide (n < -1073741824)=true:=decide_eq_true (by omega);clear hR g3 g2 g1;go_enter Tryz.func193,Tryz.ntmps193;go_wp2_with fail;go_ret;exact ⟨bU (by rw [HE.out,HR.out];rfl),HB0.out⟩
 have q3:decide (n < -1073741824)=false:=decide_eq_false (by omega)
 by_cases g4:n≤1073741824
 case neg=>
  have HR:Hid (R=false):=Lh (by rw [hR];simp[g4]);have q4:decide (1073741824 < n)=true:=decide_eq_true (by omega);clear hR g4 g3 g2 g1;go_enter Tryz.func193,Tryz.ntmps193;go_wp2_with fail;go_ret;exact ⟨bU (by rw [HE.out,HR.out];rfl),HB0.out⟩
 have q4:decide (1073741824 < n)=false:=decide_eq_false (by omega);have H1:=Lh (fun W=>Fv n d g3 g4 (by omega) g2 W);obtain ⟨g,hg⟩:∃ g,g=Int.gcd n d:=⟨_,rfl⟩
 rw[←hg] at H1 hR;cases q5:((g:Int) != 1) with
 | true=>
  have HR:Hid (R=false):=Lh (by rw [hR];have:¬ g=1:=(by intro e;rw[e] at q5;simp at q5);simp[this]);clear hR g4 g3 g2 g1 hg;go_enter Tryz.func193,Tryz.ntmps193;go_wp2_with fail;refine (H1.out _).mono ?_;rintro e w1 ⟨rfl,hb1⟩;have HB1:=Lh (HB0.out.trans (hb1.mono HB0.out.size));clear hb1;go_wp2_with fail;go_ret;exact ⟨bU (by rw [HE.out,HR.out];rfl),HB1.out⟩
 | false=>
  have HR:Hid (R=true):=Lh (by rw [hR];have h:(g:Int)=1:=(by simpa using q5);have:g=1:=(by omega);simp[this,g1,g2,g3,g4]);clear hR g4 g3 g2 g1 hg;go_enter Tryz.func193,Tryz.ntmps193;go_wp2_with fail;refine (H1.out _).mono ?_;rintro e w1 ⟨rfl,hb1⟩;have HB1:=Lh (HB0.out.trans (hb1.mono HB0.out.size));clear hb1;go_wp2_with fail;go_ret;exact ⟨bU (by rw [HE.out,HR.out];rfl),HB1.out⟩
theorem Sx.Cz (n d:Int):Sx.bL.fine ⟨n,d⟩=(Sx.bL.FT ⟨n,d⟩ && (decide (0≤n) && (decide (d≤1000) && decide (n≤12*d)))):=by
 unfold Sx.bL.fine Sx.bL.FT;rw[Bool.eq_iff_iff];simp only[Bool.and_eq_true,decide_eq_true_eq];constructor
 ·rintro ⟨⟨⟨⟨h1,h2⟩,h3⟩,h4⟩,h5⟩;refine ⟨⟨⟨⟨⟨h1,?_⟩,?_⟩,?_⟩,h5⟩,h3,h2,h4⟩ <;> omega
 ·rintro ⟨⟨⟨⟨⟨h1,_⟩,_⟩,_⟩,h5⟩,h3,h2,h4⟩;exact ⟨⟨⟨⟨h1,h2⟩,h3⟩,h4⟩,h5⟩
theorem Ka (n d:Int) (w:World):Calls Tryz.prog 146 #[.agg #[.int .i64 n,.int .i64 d]] w (ak (Sx.bL.fine ⟨n,d⟩) w):=by
 obtain ⟨R,hR⟩:∃ R,R=Sx.bL.fine ⟨n,d⟩:=⟨_,rfl⟩
 rw[←hR];rw[Sx.Cz] at hR;have H1:=Lh (fun W=>ZP n d W);have hb0:Below w.heap.size w (w.alloc (.cells #[.int .i64 n,.int .i64 d] 75)):=(Below.refl _ _).alloc (Nat.le_refl _) _;have e0:aC (w.alloc (.cells #[.int .i64 n,.int .i64 d] 75)) w.heap.size 75 #[.int .i64 n,.int .i64 d]:=aC.new _ _ _;have HB0:=Lh hb0;have E0:=Lh e0;clear hb0 e0;cases g0:Sx.bL.FT ⟨n,d⟩ with
 | false=>
  rw[g0] at hR H1;have HR:Hid (R=false):=Lh (by rw [hR];rfl);clear hR;simp only[Bool.false_eq_true,if_false] at H1;go_enter Tryz.func146,Tryz.ntmps146;go_wp2_with fail;refine (H1.out _).mono ?_;rintro e w1 ⟨rfl,hb1⟩;have HB1:=Lh (HB0.out.trans (hb1.mono HB0.out.size));clear hb1;go_wp2_with fail;go_ret;exact ⟨aj HR.out.symm,HB1.out⟩
 | true=>
 have hk:=g0;unfold Sx.bL.FT at hk;simp only[Bool.and_eq_true,decide_eq_true_eq] at hk;obtain ⟨⟨⟨⟨k1,k2⟩,k3⟩,k4⟩,-⟩:=hk;rw[g0] at hR H1;simp only[if_true] at H1;rw[Bool.true_and] at hR
 by_cases g1:0≤n
 case neg=>
  have HR:Hid (R=false):=Lh (by rw [hR];simp[g1]);clear hR;go_enter Tryz.func146,Tryz.ntmps146;go_wp2_with fail;refine (H1.out _).mono ?_;rintro e w1 ⟨rfl,hb1⟩;have HB1:=Lh (HB0.out.trans (hb1.mono HB0.out.size));have b1:=E0.out.below hb1 E0.out.lt;have x0:=b1.cell 0;have x1:=b1.cell 1;simp at x0 x1;have q1:decide (0≤n)=false:=decide_eq_false (by omega);clear hb1 b1 g1;go_wp2_with fail;go_ret;exact ⟨aj HR.out.symm,HB1.out⟩
 by_cases g2:d≤1000
 case neg=>
  have HR:Hid (R=false):=Lh (by rw [hR];simp[g2]);clear hR;go_enter Tryz.func146,Tryz.ntmps146;go_wp2_with fail;refine (H1.out _).mono ?_;rintro e w1 ⟨rfl,hb1⟩;have HB1:=Lh (HB0.out.trans (hb1.mono HB0.out.size));have b1:=E0.out.below hb1 E0.out.lt;have x0:=b1.cell 0;have x1:=b1.cell 1;simp at x0 x1;have q1:decide (0≤n)=true:=decide_eq_true g1;have q2:decide (d≤1000)=false:=decide_eq_false (by omega);clear hb1 b1 g2;go_wp2_with fail;go_ret;exact ⟨aj HR.out.symm,HB1.out⟩
 have HR:Hid (R=decide (n≤12*d)):=Lh (by rw [hR];simp[g1,g2]);have hw:IntKind.i64.wrap (12*d)=12*d:=IntWalk.i64_in _ (by omega);clear hR;go_enter Tryz.func146,Tryz.ntmps146;go_wp2_with fail;refine (H1.out _).mono ?_;rintro e w1 ⟨rfl,hb1⟩;have HB1:=Lh (HB0.out.trans (hb1.mono HB0.out.size));have b1:=E0.out.below hb1 E0.out.lt;have x0:=b1.cell 0;have x1:=b1.cell 1;simp at x0 x1;have q1:decide (0≤n)=true:=decide_eq_true g1;have q2:decide (d≤1000)=true:=decide_eq_true g2;clear hb1 b1;go_wp2_with fail;go_ret;exact ⟨aj HR.out.symm,HB1.out⟩
theorem Oi {w:World} {B b o g:Nat} {t:Lx.Tok} {r:List Lx.Tok} (hT:iw w B (some ⟨b,o,none⟩) (t::r)) (hBg:B≤g) (u:Value) (b1 o1:Nat) (h:r≠[]→b1=b∧o1=o+4):iw (w.setCell ⟨g,0,none⟩ u) B (some ⟨b1,o1,none⟩) r:=
 ⟨fun j y hj=>by
  have hr:r≠[]:=by intro e;rw[e] at hj;simp at hj
  obtain ⟨rfl,rfl⟩:=h hr;obtain ⟨b2,o2,e2,hb2,h4⟩:=hT.at_ (j+1) y (by simpa using hj);injection e2 with e2;injection e2 with e3 e4;subst e3;subst e4;refine ⟨_,_,rfl,hb2,?_⟩;rw[show o+4+j*4=o+(j+1)*4 by omega];exact h4.cells fun i=>(eP.set g 0 w u).aY.cell (p:=⟨b1,i,none⟩) (show b1 < g by omega),by have:=hT.len;simp only[List.length_cons] at this;omega,fun y hy=>hT.texts y (List.mem_cons_of_mem _ hy)⟩
theorem AB {g B b o:Nat} {last:Int} {t:Lx.Tok} {r:List Lx.Tok} {w:World} {v0:Value} (hb:aC w g 143 #[v0,.int .i64 last]) (hT:iw w B (some ⟨b,o,none⟩) (t::r)) (hB:B≤g) (b1 o1 c1:Nat) (h1:r≠[]→b1=b∧o1=o+4) (hc:r.length≤c1) :
  PS g B last r (w.setCell ⟨g,0,none⟩ (.slice (some ⟨b1,o1,none⟩) r.length c1))∧eP g w (w.setCell ⟨g,0,none⟩ (.slice (some ⟨b1,o1,none⟩) r.length c1)):=
 ⟨⟨⟨_,_,by have:=hb.set 0 (.slice (some ⟨b1,o1,none⟩) r.length c1);simpa using this,Oi hT hB _ _ _ h1,hc⟩,hB⟩,eP.set g 0 w _⟩
def xR (g B:Nat) (last:Int) (hit:Bool) (l:List Lx.Tok) (w:World) (e:Ending) (w':World):Prop:=e = .returned (.bool hit)∧PS g B last (if hit then l.tail else l) w'∧eP g w w'
theorem Pw (g B:Nat) (l:List Lx.Tok) (last k:Int) (x:ByteArray) (w:World) (h:PS g B last l w) :
  Calls Tryz.prog 173 #[.pointer (some ⟨g,0,none⟩),.int .i64 k,.string x] w (xR g B last (Sx.hit k x.data.toList l) l w):=by
 have H:=Lh h;have Hn:=Lh (O9 g B l last k x w h);cases hh:Sx.hit k x.data.toList l with
 | false=>
  rw[hh] at Hn;clear h hh;go_enter Tryz.func173,Tryz.ntmps173;go_wp2_with fail;refine Hn.out.mono ?_;rintro e w1 ⟨rfl,rfl⟩;go_wp2_with fail;go_ret;exact ⟨rfl,H.out,eP.refl _ _⟩
 | true=>
  rw[hh] at Hn;obtain ⟨⟨A,c,hb,hT,hcap⟩,hB⟩:=h;cases l with
  | nil=>cases hh
  | cons t r=>
   obtain ⟨b,o,rfl,UN,-⟩:=hT.at_ 0 t rfl;have hl:=hT.len;simp only[List.length_cons] at hl hcap;have c0:=hb.cell 0;have f0:=hb.free 0;simp at c0;have Hc:=Lh (fun b1 o1 c1 h1 hc=>AB hb hT hB b1 o1 c1 h1 hc);clear hb hT hh;go_enter Tryz.func173,Tryz.ntmps173;go_wp2_with fail;refine Hn.out.mono ?_;rintro e w1 ⟨rfl,rfl⟩;go_wp2_with fail
   ·have hr:r = []:=List.eq_nil_of_length_eq_zero (by omega);go_ret;have:=Hc.out b o 0 (fun h=>absurd hr h) (by rw [hr];exact Nat.le_refl 0);exact ⟨rfl,by simpa using this.1,by simpa using this.2⟩
   ·go_ret;have:=Hc.out b (o+4) (c - 1) (fun _=>⟨rfl,rfl⟩) (by omega);exact ⟨rfl,by simpa using this.1,by simpa using this.2⟩
theorem jG (g B:Nat) (l:List Lx.Tok) (last:Int) (x:ByteArray) (w:World) (h:PS g B last l w) :
  Calls Tryz.prog 159 #[.pointer (some ⟨g,0,none⟩),.string x] w (xR g B last (Sx.hit 1 x.data.toList l) l w):=by
 have Hs:=Lh (Pw g B l last 1 x w h);clear h;go_enter Tryz.func159,Tryz.ntmps159;go_wp2_with fail;refine Hs.out.mono ?_;rintro e w1 ⟨rfl,h1,h2⟩;have H1:=Lh h1;have H2:=Lh h2;clear h1 h2;go_wp2_with fail;go_ret;exact ⟨rfl,H1.out,H2.out⟩
theorem qD (g B:Nat) (l:List Lx.Tok) (last:Int) (x:ByteArray) (w:World) (h:PS g B last l w) :
  Calls Tryz.prog 112 #[.pointer (some ⟨g,0,none⟩),.string x] w (xR g B last (Sx.hit 3 x.data.toList l) l w):=by
 have Hs:=Lh (Pw g B l last 3 x w h);clear h;go_enter Tryz.func112,Tryz.ntmps112;go_wp2_with fail;refine Hs.out.mono ?_;rintro e w1 ⟨rfl,h1,h2⟩;have H1:=Lh h1;have H2:=Lh h2;clear h1 h2;go_wp2_with fail;go_ret;exact ⟨rfl,H1.out,H2.out⟩
theorem FE (g B:Nat) (l:List Lx.Tok) (last:Int) (x:ByteArray) (w:World) (h:PS g B last l w) :
  Calls Tryz.prog 161 #[.pointer (some ⟨g,0,none⟩),.string x] w (dH g B last w fQ (Sx.word last x.data.toList l)):=by
 have Hs:=Lh (jG g B l last x w h);obtain ⟨R,hR⟩:∃ R,R=Sx.word last x.data.toList l:=⟨_,rfl⟩
 rw[←hR];unfold Sx.word Sx.need at hR;clear h;cases hh:Sx.hit 1 x.data.toList l with
 | true=>
  rw[hh,if_pos rfl] at hR;rw[hh] at Hs;have HR:=Lh hR;clear hR hh;go_enter Tryz.func161,Tryz.ntmps161;go_wp2_with fail;refine Hs.out.mono ?_;rintro e w1 ⟨rfl,h1,h2⟩;have H1:=Lh h1;have H2:=Lh h2;clear h1 h2;go_wp2_with fail
  go_end0
  rw[HR.out];exact ⟨_,rfl,rfl,H1.out,H2.out⟩
 | false=>
  rw[hh,if_neg (by simp)] at hR;rw[hh] at Hs;have HR:=Lh hR;clear hR hh;go_enter Tryz.func161,Tryz.ntmps161;go_wp2_with fail;refine Hs.out.mono ?_;rintro e w1 ⟨rfl,h1,h2⟩;have H2:=Lh h2;have Hf:=Lh (og g B l last 100 w1 h1);clear h1 h2;go_wp2_with fail;refine Hf.out.mono ?_;rintro e w2 ⟨he,rfl⟩;unfold iL at he;subst he;exact ⟨rfl,by rw [HR.out];exact ⟨rfl,H2.out⟩⟩
theorem iA (g B:Nat) (l:List Lx.Tok) (last:Int) (c:UInt8) (w:World) (h:PS g B last l w) :
  Calls Tryz.prog 111 #[.pointer (some ⟨g,0,none⟩),.string ⟨#[c]⟩] w (dH g B last w fQ (Sx.sign last c l)):=by
 have Hs:=Lh (qD g B l last ⟨#[c]⟩ w h);obtain ⟨R,hR⟩:∃ R,R=Sx.sign last c l:=⟨_,rfl⟩
 rw[←hR];unfold Sx.sign Sx.need at hR;clear h;rw[show (⟨#[c]⟩:ByteArray).data.toList = [c] from rfl] at Hs;cases hh:Sx.hit 3 [c] l with
 | true=>
  rw[hh,if_pos rfl] at hR;rw[hh] at Hs;have HR:=Lh hR;clear hR hh;go_enter Tryz.func111,Tryz.ntmps111;go_wp2_with fail;refine Hs.out.mono ?_;rintro e w1 ⟨rfl,h1,h2⟩;have H1:=Lh h1;have H2:=Lh h2;clear h1 h2;go_wp2_with fail
  go_end0
  rw[HR.out];exact ⟨_,rfl,rfl,H1.out,H2.out⟩
 | false=>
  rw[hh,if_neg (by simp)] at hR;rw[hh] at Hs;have HR:=Lh hR;clear hR hh;go_enter Tryz.func111,Tryz.ntmps111;go_wp2_with fail;refine Hs.out.mono ?_;rintro e w1 ⟨rfl,h1,h2⟩;have H2:=Lh h2;have Hf:=Lh (og g B l last 100 w1 h1);clear h1 h2;go_wp2_with fail;refine Hf.out.mono ?_;rintro e w2 ⟨he,rfl⟩;unfold iL at he;subst he;exact ⟨rfl,by rw [HR.out];exact ⟨rfl,H2.out⟩⟩
theorem zq (g B:Nat) (l:List Lx.Tok) (last:Int) (w:World) (h:PS g B last l w) :
  Calls Tryz.prog 157 #[.pointer (some ⟨g,0,none⟩)] w (dH g B last w Yb (Sx.name last l)):=by
 have Hf:=Lh (og g B l last 100 w h);obtain ⟨R,hR⟩:∃ R,R=Sx.name last l:=⟨_,rfl⟩
 rw[←hR];obtain ⟨⟨A,c,hb,hT,hcap⟩,hB⟩:=h;have c0:=hb.cell 0;have f0:=hb.free 0;simp at c0;cases l with
 | nil=>
  have HR:Hid (R = .bad (Sx.front last []) 100):=Lh hR;clear hb hT hR;go_enter Tryz.func157,Tryz.ntmps157;go_wp2_with fail;refine Hf.out.mono ?_;rintro e w2 ⟨he,rfl⟩;unfold iL at he;subst he;exact ⟨rfl,by rw [HR.out];exact ⟨rfl,eP.refl _ _⟩⟩
 | cons t r=>
  obtain ⟨b,o,rfl,UN,q0,q1,q2,q3⟩:=hT.at_ 0 t rfl;have hl:=hT.len;simp only[List.length_cons] at hl hcap c0;simp only[Nat.zero_mul,Nat.add_zero] at q0 q1 q2 q3;have hr0:((r.length:Int)+1 == 0)=false:=by simp;omega
  have hbg:b≠g:=by omega
  have htx:=hT.texts t (by simp);have Hc:=Lh (fun b1 o1 c1 h1 hc=>AB hb hT hB b1 o1 c1 h1 hc);clear hb hT;cases hk:t.kind != 1
  ·have HR:Hid (R = .ok t.text r):=Lh (by rw [hR];unfold Sx.name;simp only;rw[if_pos (by simpa using hk)]);clear hR;go_enter Tryz.func157,Tryz.ntmps157;go_wp2_with fail
   ·have hr:r = []:=List.eq_nil_of_length_eq_zero (by omega);go_ret;rw[HR.out];have:=Hc.out b o 0 (fun h=>absurd hr h) (by rw [hr];exact Nat.le_refl 0);exact ⟨_,rfl,⟨rfl,htx⟩,by simpa using this.1,by simpa using this.2⟩
   ·go_ret;rw[HR.out];have:=Hc.out b (o+4) (c - 1) (fun _=>⟨rfl,rfl⟩) (by omega);exact ⟨_,rfl,⟨rfl,htx⟩,by simpa using this.1,by simpa using this.2⟩
  ·have HR:Hid (R = .bad (Sx.front last (t::r)) 100):=Lh (by rw [hR];unfold Sx.name;simp only;rw[if_neg (by simpa using hk)];rfl);clear hR;go_enter Tryz.func157,Tryz.ntmps157;go_wp2_with fail;refine Hf.out.mono ?_;rintro e w2 ⟨he,rfl⟩;unfold iL at he;subst he;exact ⟨rfl,by rw [HR.out];exact ⟨rfl,eP.refl _ _⟩⟩
theorem fV (g B:Nat) (l:List Lx.Tok) (last lo hi:Int) (w:World) (h:PS g B last l w) :
  Calls Tryz.prog 109 #[.pointer (some ⟨g,0,none⟩),.int .i64 lo,.int .i64 hi] w (dH g B last w gJ (Sx.number last lo hi l)):=by
 have Hf:=Lh (og g B l last 100 w h);obtain ⟨R,hR⟩:∃ R,R=Sx.number last lo hi l:=⟨_,rfl⟩
 rw[←hR];obtain ⟨⟨A,c,hb,hT,hcap⟩,hB⟩:=h;have c0:=hb.cell 0;have f0:=hb.free 0;simp at c0;cases l with
 | nil=>
  have HR:Hid (R = .bad (Sx.front last []) 100):=Lh hR;clear hb hT hR;go_enter Tryz.func109,Tryz.ntmps109;go_wp2_with fail;refine Hf.out.mono ?_;rintro e w2 ⟨he,rfl⟩;unfold iL at he;subst he;exact ⟨rfl,by rw [HR.out];exact ⟨rfl,eP.refl _ _⟩⟩
 | cons t r=>
  obtain ⟨b,o,rfl,UN,q0,q1,q2,q3⟩:=hT.at_ 0 t rfl;have hl:=hT.len;simp only[List.length_cons] at hl hcap c0;simp only[Nat.zero_mul,Nat.add_zero] at q0 q1 q2 q3;have hr0:((r.length:Int)+1 == 0)=false:=by simp;omega
  have hbg:b≠g:=by omega
  have Hc:=Lh (fun b1 o1 c1 h1 hc=>AB hb hT hB b1 o1 c1 h1 hc);clear hb hT
  by_cases hk:t.kind=2∧lo≤t.n∧t.n≤hi
  ·have HR:Hid (R = .ok t.n r):=Lh (by rw [hR];unfold Sx.number;simp only;rw[if_pos hk]);obtain ⟨hk1,hk2,hk3⟩:=hk;have hk4:(t.kind != 2)=false:=by simp [hk1]
   clear hR hk1;go_enter Tryz.func109,Tryz.ntmps109;go_wp2_with fail
   ·have hr:r = []:=List.eq_nil_of_length_eq_zero (by omega);go_ret;rw[HR.out];have:=Hc.out b o 0 (fun h=>absurd hr h) (by rw [hr];exact Nat.le_refl 0);exact ⟨_,rfl,rfl,by simpa using this.1,by simpa using this.2⟩
   ·go_ret;rw[HR.out];have:=Hc.out b (o+4) (c - 1) (fun _=>⟨rfl,rfl⟩) (by omega);exact ⟨_,rfl,rfl,by simpa using this.1,by simpa using this.2⟩
  ·have HR:Hid (R = .bad (Sx.front last (t::r)) 100):=Lh (by rw [hR];unfold Sx.number;simp only;rw[if_neg hk];rfl);clear hR;cases hk4:t.kind != 2 with
   | true=>
    clear hk;go_enter Tryz.func109,Tryz.ntmps109;go_wp2_with fail;refine Hf.out.mono ?_;rintro e w2 ⟨he,rfl⟩;unfold iL at he;subst he;exact ⟨rfl,by rw [HR.out];exact ⟨rfl,eP.refl _ _⟩⟩
   | false=>
    have hk5:t.kind=2:=by simpa using hk4
    by_cases hlo:t.n < lo
    ·clear hk hk5;go_enter Tryz.func109,Tryz.ntmps109;go_wp2_with fail;refine Hf.out.mono ?_;rintro e w2 ⟨he,rfl⟩;unfold iL at he;subst he;exact ⟨rfl,by rw [HR.out];exact ⟨rfl,eP.refl _ _⟩⟩
    ·have hhi:hi < t.n:=by
      rcases Int.lt_or_le hi t.n with h | h
      ·exact h
      ·exact absurd ⟨hk5,by omega,h⟩ hk
     have hlo2:lo≤t.n:=by omega
     clear hk hk5 hlo;go_enter Tryz.func109,Tryz.ntmps109;go_wp2_with fail;refine Hf.out.mono ?_;rintro e w2 ⟨he,rfl⟩;unfold iL at he;subst he;exact ⟨rfl,by rw [HR.out];exact ⟨rfl,eP.refl _ _⟩⟩
theorem dH.split {α:Type} {g B:Nat} {last:Int} {w w':World} {V:α→Value→World→Prop} {r:Sx.R α} {e:Ending} (h:dH g B last w V r e w') :
  (∃ p x,r = .bad p x∧e = .panicked [{ v:=.iface 141 (.agg #[.int .i64 p,.int .i64 x]),recovered:=false }]∧eP g w w')∨(∃ a l v,r = .ok a l∧e = .returned v∧V a v w'∧PS g B last l w'∧eP g w w'):=by
 cases r with
 | bad p x=>exact .inl ⟨p,x,rfl,h.1,h.2⟩
 | ok a l=>
  obtain ⟨v,h1,h2,h3,h4⟩:=h;exact .inr ⟨a,l,v,rfl,h1,h2,h3,h4⟩
theorem dH.aM {α:Type} {g B:Nat} {last p x:Int} {w w':World} {V:α→Value→World→Prop} {r:Sx.R α} (h:r = .bad p x) (hf:eP g w w'):dH g B last w V r (.panicked [{ v:=.iface 141 (.agg #[.int .i64 p,.int .i64 x]),recovered:=false }]) w':=by
 rw[h];exact ⟨rfl,hf⟩
theorem Sx.go_ok {α β:Type} {r:Sx.R α} {f:α→List Lx.Tok→Sx.R β} {R:Sx.R β} {a:α} {l:List Lx.Tok} (h:R=r.bind f) (hv:r = .ok a l):R=f a l:=by rw [h,hv];rfl
theorem Sx.aR {α β:Type} {r:Sx.R α} {f:α→List Lx.Tok→Sx.R β} {R:Sx.R β} {p x:Int} (h:R=r.bind f) (hv:r = .bad p x):R = .bad p x:=by rw [h,hv];rfl
theorem Sx.zV {last lo hi n:Int} {l r:List Lx.Tok} (h:Sx.number last lo hi l = .ok n r):lo≤n∧n≤hi:=by
 unfold Sx.number at h
 split at h
 ·split at h
  ·rename_i hk;injection h with h1 h2;subst h1;exact hk.2
  ·unfold Sx.fail at h;cases h
 ·unfold Sx.fail at h;cases h
theorem PS.iI {g B:Nat} {last:Int} {l:List Lx.Tok} {w:World} (h:PS g B last l w) {b:Nat} (hb:g < b) (i:Nat) (u:Value):PS g B last l (w.setCell ⟨b,i,none⟩ u):=by
 obtain ⟨⟨A,c,h1,h2,h3⟩,hB⟩:=h;exact ⟨⟨A,c,h1.far (p:=⟨b,i,none⟩) (show g≠b by omega) u,h2.below (Below.setCell (Below.refl b w) (show b≤(⟨b,i,none⟩:Addr).block from Nat.le_refl b) u) (by omega),h3⟩,hB⟩
theorem eP.iI {g:Nat} {w w':World} (h:eP g w w') (hg:g < w.heap.size) {b:Nat} (hb:w.heap.size≤b) (i:Nat) (u:Value):eP g w (w'.setCell ⟨b,i,none⟩ u):=
 ⟨h.aY.setCell (show g≤b by omega) u,fun k hk hn=>(Below.heap_setCell w' ⟨b,i,none⟩ u k (show k≠b by omega)).trans (h.keep k hk hn)⟩
theorem eP.alloc {g:Nat} {w w':World} (h:eP g w w') (hg:g < w.heap.size) (o:Obj):eP g w (w'.alloc o):=h.trans (eP.below ((Below.refl _ _).alloc (Nat.le_refl _) o) (by have:=h.aY.size;omega))
theorem PS.alloc {g B:Nat} {last:Int} {l:List Lx.Tok} {w:World} (h:PS g B last l w) (o:Obj):PS g B last l (w.alloc o):=h.next ((Below.refl _ _).alloc (Nat.le_refl _) o)
def Nt (r:Sx.bL) (v:Value) (_:World):Prop:=v = .agg #[.int .i64 r.num,.int .i64 r.den]
def ZQ (r:List UInt8 × Int) (v:Value) (_:World):Prop:=v = .tuple #[bB r.1,.int .i64 r.2]∧r.1.length≤140737488351232
theorem Ey (g B:Nat) (l:List Lx.Tok) (last:Int) (w:World) (h:PS g B last l w) :
  Calls Tryz.prog 110 #[.pointer (some ⟨g,0,none⟩)] w (dH g B last w Nt (Sx.ratio last l)):=by
 obtain ⟨R,hR⟩:∃ R,R=Sx.ratio last l:=⟨_,rfl⟩
 rw[←hR];have hlt:=h.lt;have hb0:Below w.heap.size w (w.alloc (.cells #[.int .i64 0,.int .i64 0] 75)):=(Below.refl _ _).alloc (Nat.le_refl _) _;have H:=Lh (h.next hb0);have HR:=Lh hR;have HF:=Lh (eP.below hb0 hlt);have X:=Lh (aC.new w 75 #[.int .i64 0,.int .i64 0]);clear h hR hb0;go_enter Tryz.func110,Tryz.ntmps110;go_wp2_with fail;refine (fV g B l last 0 12000 _ H.out).mono ?_;intro e w1 he
 rcases he.split with ⟨p,x,hv,rfl,hf⟩ | ⟨n,l1,v,hv,rfl,hV,hs,hf⟩
 ·exact ⟨rfl,dH.aM (Sx.aR HR.out hv) (HF.out.trans hf)⟩
 ·unfold gJ at hV;subst hV;replace HR:=Lh (Sx.go_ok HR.out hv);obtain ⟨hn1,hn2⟩:=Sx.zV hv;obtain ⟨z,rfl⟩:=Int.eq_ofNat_of_zero_le hn1;have HS:=Lh hs;have UW:=Lh (HF.out.trans hf);have X1:=Lh (hf.blk X.out (by omega));clear hv hs hf;go_wp2_with fail;refine (iA g B l1 last 47 _ HS.out).mono ?_;intro e w2 he
  rcases he.split with ⟨p,x,hv,rfl,hf⟩ | ⟨u,l2,v,hv,rfl,hV,hs,hf⟩
  ·exact ⟨rfl,dH.aM (Sx.aR HR.out hv) (UW.out.trans hf)⟩
  ·unfold fQ at hV;subst hV;replace HR:=Lh (Sx.go_ok HR.out hv);have HS2:=Lh hs;have LV:=Lh (UW.out.trans hf);have X2:=Lh (hf.blk X1.out (by omega));clear hv hs hf;go_wp2_with fail;refine (fV g B l2 last (max 1 (((z:Int)+12 - 1) / 12)) 1000 _ HS2.out).mono ?_;intro e w3 he;have hm:((z:Int)+12 - 1) / 12=((z:Int)+11) / 12:=by omega
   rw[hm] at he;clear hm
   rcases he.split with ⟨p,x,hv,rfl,hf⟩ | ⟨d,l3,v,hv,rfl,hV,hs,hf⟩
   ·exact ⟨rfl,dH.aM (Sx.aR HR.out hv) (LV.out.trans hf)⟩
   ·unfold gJ at hV;subst hV;replace HR:=Lh (Sx.go_ok HR.out hv);obtain ⟨hd1,hd2⟩:=Sx.zV hv;have hd3:1≤d:=by have:=Int.le_max_left 1 (((z:Int)+11) / 12);omega
    obtain ⟨y,rfl⟩:=Int.eq_ofNat_of_zero_le (show 0≤d by omega);have HS3:=Lh hs;have HF3:=Lh (LV.out.trans hf);have X3:=Lh (hf.blk X2.out (by omega));have ZR:=Lh (sNew z y (by omega) (by omega) (by omega) w3);have hsz:=hf.aY.size;have hsz2:=X2.out.lt;clear hv hs hf hd1;go_wp2_with fail;refine ZR.out.mono ?_;rintro e w4 ⟨rfl,hb⟩;have x4:=X3.out.below hb X3.out.lt;have hs4:=HS3.out.next hb;have CZ:=HF3.out.trans (eP.below hb HS3.out.lt);obtain ⟨q,hq⟩:∃ q,q=Sx.lowest z y:=⟨_,rfl⟩
    rw[←hq] at HR ⊢;have HS4:=Lh hs4;have HF4:=Lh CZ;have X4:=Lh x4;have x0:=x4.cell 0;have x1:=x4.cell 1;have f0:=x4.free 0;have f1:=x4.free 1;simp at x0 x1;have hw4:=x4.lt;clear hb x4 hs4 CZ hq;go_wp2_with fail
    try simp only [Exit.inBlock,Exit.then]
    obtain ⟨W,hW⟩:∃ W,W=((w4.setCell ⟨w.heap.size,0,none⟩ (.int .i64 q.num)).setCell ⟨w.heap.size,1,none⟩ (.int .i64 q.den)).alloc (.cells #[.int .i64 q.num,.int .i64 q.den] 75):=⟨_,rfl⟩
    have hB:aC W w.heap.size 75 #[.int .i64 q.num,.int .i64 q.den]:=by
     rw[hW];have:=((X4.out.set 0 (.int .i64 q.num)).set 1 (.int .i64 q.den)).alloc (.cells #[.int .i64 q.num,.int .i64 q.den] 75);simpa using this
    have hS:PS g B last l3 W:=by rw [hW];exact ((HS4.out.iI hlt 0 _).iI hlt 1 _).alloc _
    have hF:eP g w W:=by rw [hW];exact ((HF4.out.iI hlt (Nat.le_refl _) 0 _).iI hlt (Nat.le_refl _) 1 _).alloc hlt _
    have d0:=hB.cell 0;have d1:=hB.cell 1;simp at d0 d1;rw[←hW];clear hW;exact bodyPost_ret (v:=.agg #[.int .i64 q.num,.int .i64 q.den]) (by simp [results,Tryz.results110,go_sem,d0,d1]) rfl (by rw [HR.out];exact ⟨_,rfl,rfl,hS,hF⟩)
theorem IB (g B:Nat) (l:List Lx.Tok) (last:Int) (w:World) (h:PS g B last l w) :
  Calls Tryz.prog 108 #[.pointer (some ⟨g,0,none⟩)] w (dH g B last w ZQ (Sx.ref last l)):=by
 obtain ⟨R,hR⟩:∃ R,R=Sx.ref last l:=⟨_,rfl⟩
 rw[←hR];unfold Sx.ref at hR;have Hs:=Lh (qD g B l last ⟨#[35]⟩ w h);rw[show (⟨#[35]⟩:ByteArray).data.toList = [35] from rfl] at Hs;clear h;cases hh:Sx.hit 3 [35] l with
 | true=>
  rw[hh,if_pos rfl] at hR;rw[hh] at Hs;have HR:=Lh hR;clear hR hh;go_enter Tryz.func108,Tryz.ntmps108;go_wp2_with fail;refine Hs.out.mono ?_;rintro e w1 ⟨rfl,h1,h2⟩;have H1:=Lh h1;have H2:=Lh h2;clear h1 h2;go_wp2_with fail;refine (fV g B l.tail last 0 4095 _ H1.out).mono ?_;intro e w2 he
  rcases he.split with ⟨p,x,hv,rfl,hf⟩ | ⟨n,l1,v,hv,rfl,hV,hs,hf⟩
  ·exact ⟨rfl,dH.aM (Sx.aR HR.out hv) (H2.out.trans hf)⟩
  ·unfold gJ at hV;subst hV;replace HR:=Lh (Sx.go_ok HR.out hv);have HS:=Lh hs;have HF:=Lh (H2.out.trans hf);clear hv hs hf he;go_wp2_with fail;go_ret2;rw[HR.out];exact ⟨_,rfl,⟨rfl,by simp⟩,HS.out,HF.out⟩
 | false=>
  rw[hh,if_neg (by simp)] at hR;rw[hh] at Hs;have HR:=Lh hR;clear hR hh;go_enter Tryz.func108,Tryz.ntmps108;go_wp2_with fail;refine Hs.out.mono ?_;rintro e w1 ⟨rfl,h1,h2⟩;have H1:=Lh h1;have H2:=Lh h2;clear h1 h2;go_wp2_with fail;refine (zq g B l last _ H1.out).mono ?_;intro e w2 he
  rcases he.split with ⟨p,x,hv,rfl,hf⟩ | ⟨n,l1,v,hv,rfl,hV,hs,hf⟩
  ·exact ⟨rfl,dH.aM (Sx.aR HR.out hv) (H2.out.trans hf)⟩
  ·obtain ⟨hV,hnl⟩:=hV;subst hV;replace HR:=Lh (Sx.go_ok HR.out hv);have HS:=Lh hs;have HF:=Lh (H2.out.trans hf);clear hv hs hf he;go_wp2_with fail;go_ret2;rw[HR.out];exact ⟨_,rfl,⟨rfl,hnl⟩,HS.out,HF.out⟩
structure fC (w : World) (N b o : Nat) (ws : List (List UInt8)) : Prop where
 lt:b < N
 at_:∀ i x,ws[i]?=some x→w.cell? ⟨b,o+i,none⟩=some (bB x)
theorem fC.keep {w w':World} {N b o:Nat} {ws:List (List UInt8)} (h:fC w N b o ws) (hb:Below N w w'):fC w' N b o ws:=⟨h.lt,fun i x hx=>(hb.cell (p:=⟨b,o+i,none⟩) h.lt).trans (h.at_ i x hx)⟩
def kX (w:World) (N gi:Nat) (ws:List (List UInt8)):Prop:=∃ b o c,w.cell? ⟨gi,0,none⟩=some (.slice (some ⟨b,o,none⟩) ws.length c)∧gi < N∧fC w N b o ws
theorem kX.keep {w w':World} {N gi:Nat} {ws:List (List UInt8)} (h:kX w N gi ws) (hb:Below N w w'):kX w' N gi ws:=by
 obtain ⟨b,o,c,h1,h2,h3⟩:=h;exact ⟨b,o,c,(hb.cell (p:=⟨gi,0,none⟩) h2).trans h1,h2,h3.keep hb⟩
structure d9 (N : Nat) (w : World) : Prop where
 env:Env w
 size:N≤w.heap.size
 lib:10+1≤N
 rule:kX w N 3 Sx.ruleWords
 kind:kX w N 0 Sx.kindWords
 gH:kX w N 1 Sx.whenWords
 action:kX w N 2 Sx.actionWords
 rep:kX w N 4 Sx.repeatWords
theorem d9.keep {N:Nat} {w w':World} (h:d9 N w) (hb:Below N w w'):d9 N w':=⟨h.env.below hb h.lib,Nat.le_trans h.size hb.size,h.lib,h.rule.keep hb,h.kind.keep hb,h.gH.keep hb,h.action.keep hb,h.rep.keep hb⟩
theorem d9.next {N:Nat} {w w':World} (h:d9 N w) (hb:Below w.heap.size w w'):d9 N w':=h.keep (hb.mono h.size)
theorem d9.fr {N g:Nat} {w w':World} (h:d9 N w) (hf:eP g w w') (hN:N≤g):d9 N w':=h.keep (hf.aY.mono hN)
def iU (g B:Nat) (last:Int) (ws:List (List UInt8)) (l:List Lx.Tok) (w:World) (e:Ending) (w':World):Prop:=
 match Sx.find ws l with
 | some i=>e = .returned (.int .i64 (i:Nat))∧PS g B last l.tail w'∧eP g w w'
 | none=>e = .returned (.int .i64 (-1))∧PS g B last l w'∧eP g w w'
theorem Sx.IC {ws:List (List UInt8)} {l:List Lx.Tok} {k:Nat} {x:List UInt8} (hx:ws[k]?=some x) (hh:Sx.hit 1 x l=true) (hno:∀ j,j < k→∀ y,ws[j]?=some y→Sx.hit 1 y l=false):Sx.find ws l=some k:=by
 unfold Sx.find;obtain ⟨hlt,he⟩:=List.getElem?_eq_some_iff.1 hx;rw[List.findIdx?_eq_some_iff_getElem];refine ⟨hlt,by rw [he];exact hh,fun j hj=>?_⟩;have:=hno j hj ws[j] (List.getElem?_eq_getElem (by omega));simp[this]
theorem Sx.IE {ws:List (List UInt8)} {l:List Lx.Tok} (hno:∀ (j:Nat) y,ws[j]?=some y→Sx.hit 1 y l=false):Sx.find ws l=none:=by
 unfold Sx.find;rw[List.findIdx?_eq_none_iff];intro y hy;obtain ⟨j,hj⟩:=List.mem_iff_getElem?.1 hy;exact hno j y hj
theorem FB (g B N b o c:Nat) (ws:List (List UInt8)) (l:List Lx.Tok) (last:Int) (w:World) (h:PS g B last l w) (hw:fC w N b o ws) (hN:N≤g) (hlen:ws.length≤100) :
  Calls Tryz.prog 158 #[.pointer (some ⟨g,0,none⟩),.slice (some ⟨b,o,none⟩) ws.length c] w (iU g B last ws l w):=by
 obtain ⟨n,hn⟩:∃ n,n=ws.length:=⟨_,rfl⟩
 rw[←hn] at hlen ⊢;have H:=Lh h;have HW:=Lh hw;have Hn:=Lh hn;have hlt:=h.lt;have hbN:=hw.lt;clear h hw hn;go_enter Tryz.func158,Tryz.ntmps158;go_wp2_with fail
 go_loopw [9] (fun v9 wr=>∃ k:Nat,k≤n∧v9 = .int .i64 k∧Hid (PS g B last l wr)∧Hid (eP g w wr)∧Hid (∀ j,j < k→∀ y,ws[j]?=some y→Sx.hit 1 y l=false)) (fun v9 _=>n - (intOf v9).toNat)
 case atStart=>exact ⟨0,by omega,rfl,H,Lh (eP.refl _ _),Lh (fun j hj=>absurd hj (Nat.not_lt_zero j))⟩
 case round=>
  obtain ⟨k,hk,rfl,HS,HF,Hno⟩:=hrel
  by_cases hkn:k < n
  ·obtain ⟨x,hx⟩:∃ x,ws[k]?=some x:=⟨_,List.getElem?_eq_getElem (by have:=Hn.out;omega)⟩
   have hc:=(HW.out.keep (HF.out.aY.mono hN)).at_ k x hx;unfold bB at hc;have Hs:=Lh (jG g B l last (Lx.bs x) wr HS.out);rw[Lx.aK] at Hs;have Hx:=Lh hx;clear hx;cases hh:Sx.hit 1 x l with
   | true=>
    rw[hh] at Hs;have Hh:=Lh hh;clear hh;go_wp2_with fail;refine Hs.out.mono ?_;rintro e w1 ⟨rfl,h1,h2⟩;have H1:=Lh h1;have H2:=Lh (HF.out.trans h2);clear h1 h2 hc;go_wp2_with fail;go_ret;unfold iU;rw[Sx.IC Hx.out Hh.out Hno.out];exact ⟨rfl,H1.out,H2.out⟩
   | false=>
    rw[hh] at Hs;have Hh:=Lh hh;clear hh;go_wp2_with fail;refine Hs.out.mono ?_;rintro e w1 ⟨rfl,h1,h2⟩;have H1:=Lh h1;have H2:=Lh (HF.out.trans h2);clear h1 h2 hc;go_wp2_with fail
    go_roundw
    case rel=>exact ⟨k+1,by omega,by go_num,H1,H2,Lh (fun j hj z hz=>by
     rcases Nat.lt_or_ge j k with h1 | h1
     ·exact Hno.out j h1 z hz
     ·obtain rfl:j=k:=by omega
      rw[Hx.out] at hz;injection hz with hz;rw[←hz];exact Hh.out)⟩
    case measure=>simp [intOf];omega
  ·obtain rfl:k=n:=by omega
   have hf:Sx.find ws l=none:=Sx.IE (fun j y hy=>Hno.out j (by have:=(List.getElem?_eq_some_iff.1 hy).1;have:=Hn.out;omega) y hy);have Hf:=Lh hf;clear hf;go_wp2_with fail;go_ret;unfold iU;rw[Hf.out];exact ⟨rfl,HS.out,HF.out⟩
theorem iH (g B N b o c:Nat) (ws:List (List UInt8)) (l:List Lx.Tok) (last:Int) (w:World) (h:PS g B last l w) (hw:fC w N b o ws) (hN:N≤g) (hlen:ws.length≤100) :
  Calls Tryz.prog 107 #[.pointer (some ⟨g,0,none⟩),.slice (some ⟨b,o,none⟩) ws.length c] w (dH g B last w gJ (Sx.oneOf last ws l)):=by
 have Hc:=Lh (FB g B N b o c ws l last w h hw hN hlen);obtain ⟨R,hR⟩:∃ R,R=Sx.oneOf last ws l:=⟨_,rfl⟩
 rw[←hR];unfold Sx.oneOf at hR;unfold iU at Hc;clear h hw;cases hf:Sx.find ws l with
 | some i=>
  rw[hf] at Hc hR;have HR:=Lh hR;clear hR hf;go_enter Tryz.func107,Tryz.ntmps107;go_wp2_with fail;refine Hc.out.mono ?_;rintro e w1 ⟨rfl,h1,h2⟩;have H1:=Lh h1;have H2:=Lh h2;clear h1 h2;go_wp2_with fail;go_ret;rw[HR.out];exact ⟨_,rfl,rfl,H1.out,H2.out⟩
 | none=>
  rw[hf] at Hc hR;have HR:=Lh hR;clear hR hf;go_enter Tryz.func107,Tryz.ntmps107;go_wp2_with fail;refine Hc.out.mono ?_;rintro e w1 ⟨rfl,h1,h2⟩;have H2:=Lh h2;have Hf:=Lh (og g B l last 100 w1 h1);clear h1 h2;go_wp2_with fail;refine Hf.out.mono ?_;rintro e w2 ⟨he,rfl⟩;unfold iL at he;subst he;exact ⟨rfl,by rw [HR.out];exact ⟨rfl,H2.out⟩⟩
end Go.Proofs.YtjonaidancomgaaGreatDoor
