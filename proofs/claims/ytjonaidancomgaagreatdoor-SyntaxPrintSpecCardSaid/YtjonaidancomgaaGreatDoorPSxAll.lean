/- Parts of the proof, joined into one text: q1f. -/
import Derived.Test.YtjonaidancomgaaGreatDoorPSxOk
import Derived.Test.YtjonaidancomgaaGreatDoorPSxPrQ
import Derived.Deep.LoopGhost
set_option maxHeartbeats 4000000
set_option maxRecDepth 20000
namespace Go.Proofs.YtjonaidancomgaaGreatDoor
open Go.RowKit
theorem aG {w w':World} (hb:Below w.heap.size w w'):∀ b,Old w b→Old w' b∧∀ i,w'.cell? ⟨b,i,none⟩=w.cell? ⟨b,i,none⟩:=fun b hb1=>⟨Nat.lt_of_lt_of_le hb1 hb.size,fun i=>hb.cell (p:=⟨b,i,none⟩) hb1⟩
def lW (R:Bool) (w:World) (e:Ending) (w':World):Prop:=∃ z:Int,e = .returned (.int .i64 z)∧decide (0≤z)=R∧Below w.heap.size w w'
theorem jf {α:Type} {l:List α} {b:α→Bool} {i:Nat} {x:α} (h:l[i]?=some x) (hb:b x=false):l.all b=false:=by
 rw[List.all_eq_false];exact ⟨x,List.mem_of_getElem? h,by simp [hb]⟩
theorem fA {α:Type} {l:List α} {b:α→Bool} (h:∀ j x,j < l.length→l[j]?=some x→b x=true):l.all b=true:=by
 rw[List.all_eq_true];intro x hx;obtain ⟨j,hj,e⟩:=List.mem_iff_getElem.1 hx;exact h j x hj (by rw [List.getElem?_eq_getElem hj,e])
theorem bG {w:World} {S:Nat→Prop} {x:Sx.Rule} {cs:List Value} (h:aB w S x cs):∃ (i0:Int) (i1:Int) (s2:ByteArray) (i3:Int) (i4:Int) (A5:Option Addr) (n5 c5:Nat),cs = [.int .i64 i0,.int .i64 i1,.string s2,.int .i64 i3,.int .i64 i4,.slice A5 n5 c5]:=by
 cases x;rw[aB] at h;obtain ⟨A,c,rfl,_⟩:=h;exact ⟨_,_,_,_,_,_,_,_,rfl⟩
theorem cu {w w':World} {x:Sx.Rule} {cs:List Value} (hb:Below w.heap.size w w') (h:aB w (Old w) x cs):aB w' (Old w') x cs:=aB.old h hb
theorem JV (A:Option Addr) (c:Nat) (l:List Sx.Rule) (bx:Nat) (b:Sx.Rule→Bool) (w:World) (hl:Row w (Old w) A 6 (aB w (Old w)) l)
  (HC:∀ x∈l,∀ cs W,Below w.heap.size w W→aB W (Old W) x cs→Calls Tryz.prog 148 #[.agg cs.toArray,.pointer (some ⟨bx,0,none⟩)] W (ak (!b x) W)) :
  Calls Tryz.prog 194 #[.slice A l.length c,.func (.func 148) #[] #[.pointer (some ⟨bx,0,none⟩)]] w (lW (!l.all b) w):=by
 obtain ⟨m,hm⟩:∃ m,m=l.length:=⟨_,rfl⟩
 obtain ⟨R,hR⟩:∃ R,R = !l.all b:=⟨_,rfl⟩
 have z0:=hl.len;rw[←hm] at z0 ⊢;rw[←hR];have Hl:=Lh hl;have Hm:=Lh hm;have HR:=Lh hR;have vH:=Lh HC;clear hl hm hR HC;go_enter Tryz.func194,Tryz.ntmps194;go_wp2_with fail
 go_loopg [8] m (fun gk v8 wr=>∃ i:Nat,v8 = .int .i64 i∧i+gk=m∧Hid (Below w.heap.size w wr)∧Hid (∀ j x,j < i→l[j]?=some x→b x=true))
 case atStart=>exact ⟨0,rfl,by omega,Lh (Below.refl _ _),Lh (fun j x hj=>absurd hj (Nat.not_lt_zero j))⟩
 case round=>
  obtain ⟨i,rfl,hi,Hb,dQ⟩:=hrel;have hws:=Hb.out.size
  by_cases hlt:i < m
  ·obtain ⟨x,hx⟩:∃ x,l[i]?=some x:=⟨_,List.getElem?_eq_getElem (by have:=Hm.out;omega)⟩
   have Hx:=Lh hx;obtain ⟨bk,ok,cs,rfl,hS,hP,hck⟩:=Hl.out.at_ i x hx;have hcall:=vH.out x (List.mem_of_getElem? hx) cs;have hP':=cu Hb.out hP;obtain ⟨i0,i1,s2,i3,i4,A5,n5,c5,rfl⟩:=bG hP;have k0:=(Hb.out.cell (p:=⟨bk,_,none⟩) hS).trans (hck 0 _ rfl);have k1:=(Hb.out.cell (p:=⟨bk,_,none⟩) hS).trans (hck 1 _ rfl);have k2:=(Hb.out.cell (p:=⟨bk,_,none⟩) hS).trans (hck 2 _ rfl);have k3:=(Hb.out.cell (p:=⟨bk,_,none⟩) hS).trans (hck 3 _ rfl);have k4:=(Hb.out.cell (p:=⟨bk,_,none⟩) hS).trans (hck 4 _ rfl);have k5:=(Hb.out.cell (p:=⟨bk,_,none⟩) hS).trans (hck 5 _ rfl)
   simp only[Nat.add_zero] at k0 k1 k2 k3 k4 k5;have aH:=Lh (hcall wr Hb.out hP');clear hcall hP hP' hck hx;cases hq:b x with
   | false=>
    rw[hq] at aH;have HR2:Hid (R=true):=Lh (by rw [HR.out,jf Hx.out hq];rfl);clear hq;go_wp2_with fail;refine aH.out.mono ?_;rintro e w5 ⟨rfl,hb5⟩;have Hb5:=Lh hb5;clear hb5;go_wp2_with fail;go_ret;exact ⟨i,bU rfl,by rw [HR2.out];simp,Hb.out.trans (Hb5.out.mono hws)⟩
   | true=>
    rw[hq] at aH;have Hq:=Lh hq;clear hq;go_wp2_with fail;refine aH.out.mono ?_;rintro e w5 ⟨rfl,hb5⟩;have Hb5:=Lh hb5;clear hb5;go_wp2_with fail
    go_roundg (gk - 1)
    all_goals first
     | omega
     | exact ⟨i+1,by go_num,by omega,Lh (Hb.out.trans (Hb5.out.mono hws)),Lh (fun j y hj h1=>by
       rcases Nat.lt_or_ge j i with h3 | h3
       ·exact dQ.out j y h3 h1
       ·obtain rfl:j=i:=by omega
        rw[Hx.out] at h1;injection h1 with h1;rw[←h1];exact Hq.out)⟩
  ·obtain rfl:i=m:=by omega
   have HR2:Hid (R=false):=Lh (by rw [HR.out,fA fun j x hj h=>dQ.out j x (by have:=Hm.out;omega) h];rfl);go_wp2_with fail;go_ret;exact ⟨-1,bU rfl,by rw [HR2.out];rfl,Hb.out⟩
theorem JW (A:Option Addr) (c:Nat) (l:List Sx.Rule) (bx:Nat) (b:Sx.Rule→Bool) (w:World) (hl:Row w (Old w) A 6 (aB w (Old w)) l)
  (HC:∀ x∈l,∀ cs W,Below w.heap.size w W→aB W (Old W) x cs→Calls Tryz.prog 148 #[.agg cs.toArray,.pointer (some ⟨bx,0,none⟩)] W (ak (!b x) W)) :
  Calls Tryz.prog 147 #[.slice A l.length c,.func (.func 148) #[] #[.pointer (some ⟨bx,0,none⟩)]] w (ak (!l.all b) w):=by
 have Hc:=Lh (JV A c l bx b w hl HC);obtain ⟨R,hR⟩:∃ R,R = !l.all b:=⟨_,rfl⟩
 obtain ⟨m,hm⟩:∃ m,m=l.length:=⟨_,rfl⟩
 rw[←hR,←hm] at Hc ⊢;clear hl HC hR hm;go_enter Tryz.func147,Tryz.ntmps147;go_wp2_with fail;refine Hc.out.mono ?_;rintro e w1 ⟨z,rfl,hz,hb1⟩;have Hz:=Lh hz;have Hb1:=Lh hb1;clear hz hb1;go_wp2_with fail;go_ret;exact ⟨aj Hz.out,Hb1.out⟩
theorem jP {w:World} {S:Nat→Prop} {x:Sx.Course} {cs:List Value} (h:aV w S x cs):∃ (s0:ByteArray) (i1:Int) (i2:Int) (i3:Int) (i4:Int) (i5:Int) (s6:ByteArray) (i7:Int) (i8:Int) (A9:Option Addr) (n9 c9:Nat) (Qn:Int) (i11:Int) (s12:ByteArray) (Qo:Int) (Qp:Int) (Qq:Option Addr) (n15 c15:Nat),cs = [.string s0,.int .i64 i1,.int .i64 i2,.int .i64 i3,.int .i64 i4,.int .i64 i5,.string s6,.int .i64 i7,.int .i64 i8,.slice A9 n9 c9,.int .i64 Qn,.int .i64 i11,.string s12,.int .i64 Qo,.int .i64 Qp,.slice Qq n15 c15]:=by
 obtain ⟨cn,cb,rfl,_,h3,h4⟩:=h;obtain ⟨i0,i1,s2,i3,i4,A5,n5,c5,rfl⟩:=bG h3;obtain ⟨j0,j1,t2,j3,j4,B5,m5,d5,rfl⟩:=bG h4;exact ⟨_,_,_,_,_,_,_,_,_,_,_,_,_,_,_,_,_,_,_,_,rfl⟩
theorem fZ {w w':World} {x:Sx.Course} {cs:List Value} (hb:Below w.heap.size w w') (h:aV w (Old w) x cs):aV w' (Old w') x cs:=aV.keep (aG hb) h
theorem Ej (A:Option Addr) (c:Nat) (l:List Sx.Course) (bx:Nat) (b:Sx.Course→Bool) (w:World) (hl:Row w (Old w) A 16 (aV w (Old w)) l)
  (HC:∀ x∈l,∀ cs W,Below w.heap.size w W→aV W (Old W) x cs→Calls Tryz.prog 175 #[.agg cs.toArray,.pointer (some ⟨bx,0,none⟩)] W (ak (!b x) W)) :
  Calls Tryz.prog 204 #[.slice A l.length c,.func (.func 175) #[] #[.pointer (some ⟨bx,0,none⟩)]] w (lW (!l.all b) w):=by
 obtain ⟨m,hm⟩:∃ m,m=l.length:=⟨_,rfl⟩
 obtain ⟨R,hR⟩:∃ R,R = !l.all b:=⟨_,rfl⟩
 have z0:=hl.len;rw[←hm] at z0 ⊢;rw[←hR];have Hl:=Lh hl;have Hm:=Lh hm;have HR:=Lh hR;have vH:=Lh HC;clear hl hm hR HC;go_enter Tryz.func204,Tryz.ntmps204;go_wp2_with fail
 go_loopg [8] m (fun gk v8 wr=>∃ i:Nat,v8 = .int .i64 i∧i+gk=m∧Hid (Below w.heap.size w wr)∧Hid (∀ j x,j < i→l[j]?=some x→b x=true))
 case atStart=>exact ⟨0,rfl,by omega,Lh (Below.refl _ _),Lh (fun j x hj=>absurd hj (Nat.not_lt_zero j))⟩
 case round=>
  obtain ⟨i,rfl,hi,Hb,dQ⟩:=hrel;have hws:=Hb.out.size
  by_cases hlt:i < m
  ·obtain ⟨x,hx⟩:∃ x,l[i]?=some x:=⟨_,List.getElem?_eq_getElem (by have:=Hm.out;omega)⟩
   have Hx:=Lh hx;obtain ⟨bk,ok,cs,rfl,hS,hP,hck⟩:=Hl.out.at_ i x hx;have hcall:=vH.out x (List.mem_of_getElem? hx) cs;have hP':=fZ Hb.out hP;obtain ⟨s0,i1,i2,i3,i4,i5,s6,i7,i8,A9,n9,c9,Qn,i11,s12,Qo,Qp,Qq,n15,c15,rfl⟩:=jP hP;have k0:=(Hb.out.cell (p:=⟨bk,_,none⟩) hS).trans (hck 0 _ rfl);have k1:=(Hb.out.cell (p:=⟨bk,_,none⟩) hS).trans (hck 1 _ rfl);have k2:=(Hb.out.cell (p:=⟨bk,_,none⟩) hS).trans (hck 2 _ rfl);have k3:=(Hb.out.cell (p:=⟨bk,_,none⟩) hS).trans (hck 3 _ rfl);have k4:=(Hb.out.cell (p:=⟨bk,_,none⟩) hS).trans (hck 4 _ rfl)
   have k5:=(Hb.out.cell (p:=⟨bk,_,none⟩) hS).trans (hck 5 _ rfl);have k6:=(Hb.out.cell (p:=⟨bk,_,none⟩) hS).trans (hck 6 _ rfl);have k7:=(Hb.out.cell (p:=⟨bk,_,none⟩) hS).trans (hck 7 _ rfl);have k8:=(Hb.out.cell (p:=⟨bk,_,none⟩) hS).trans (hck 8 _ rfl);have k9:=(Hb.out.cell (p:=⟨bk,_,none⟩) hS).trans (hck 9 _ rfl);have k10:=(Hb.out.cell (p:=⟨bk,_,none⟩) hS).trans (hck 10 _ rfl);have k11:=(Hb.out.cell (p:=⟨bk,_,none⟩) hS).trans (hck 11 _ rfl);have k12:=(Hb.out.cell (p:=⟨bk,_,none⟩) hS).trans (hck 12 _ rfl);have k13:=(Hb.out.cell (p:=⟨bk,_,none⟩) hS).trans (hck 13 _ rfl)
   have k14:=(Hb.out.cell (p:=⟨bk,_,none⟩) hS).trans (hck 14 _ rfl);have k15:=(Hb.out.cell (p:=⟨bk,_,none⟩) hS).trans (hck 15 _ rfl);simp only[Nat.add_zero] at k0 k1 k2 k3 k4 k5 k6 k7 k8 k9 k10 k11 k12 k13 k14 k15;have aH:=Lh (hcall wr Hb.out hP');clear hcall hP hP' hck hx;cases hq:b x with
   | false=>
    rw[hq] at aH;have HR2:Hid (R=true):=Lh (by rw [HR.out,jf Hx.out hq];rfl);clear hq;go_wp2_with fail;refine aH.out.mono ?_;rintro e w5 ⟨rfl,hb5⟩;have Hb5:=Lh hb5;clear hb5;go_wp2_with fail;go_ret;exact ⟨i,bU rfl,by rw [HR2.out];simp,Hb.out.trans (Hb5.out.mono hws)⟩
   | true=>
    rw[hq] at aH;have Hq:=Lh hq;clear hq;go_wp2_with fail;refine aH.out.mono ?_;rintro e w5 ⟨rfl,hb5⟩;have Hb5:=Lh hb5;clear hb5;go_wp2_with fail
    go_roundg (gk - 1)
    all_goals first
     | omega
     | exact ⟨i+1,by go_num,by omega,Lh (Hb.out.trans (Hb5.out.mono hws)),Lh (fun j y hj h1=>by
       rcases Nat.lt_or_ge j i with h3 | h3
       ·exact dQ.out j y h3 h1
       ·obtain rfl:j=i:=by omega
        rw[Hx.out] at h1;injection h1 with h1;rw[←h1];exact Hq.out)⟩
  ·obtain rfl:i=m:=by omega
   have HR2:Hid (R=false):=Lh (by rw [HR.out,fA fun j x hj h=>dQ.out j x (by have:=Hm.out;omega) h];rfl);go_wp2_with fail;go_ret;exact ⟨-1,bU rfl,by rw [HR2.out];rfl,Hb.out⟩
theorem El (A:Option Addr) (c:Nat) (l:List Sx.Course) (bx:Nat) (b:Sx.Course→Bool) (w:World) (hl:Row w (Old w) A 16 (aV w (Old w)) l)
  (HC:∀ x∈l,∀ cs W,Below w.heap.size w W→aV W (Old W) x cs→Calls Tryz.prog 175 #[.agg cs.toArray,.pointer (some ⟨bx,0,none⟩)] W (ak (!b x) W)) :
  Calls Tryz.prog 174 #[.slice A l.length c,.func (.func 175) #[] #[.pointer (some ⟨bx,0,none⟩)]] w (ak (!l.all b) w):=by
 have Hc:=Lh (Ej A c l bx b w hl HC);obtain ⟨R,hR⟩:∃ R,R = !l.all b:=⟨_,rfl⟩
 obtain ⟨m,hm⟩:∃ m,m=l.length:=⟨_,rfl⟩
 rw[←hR,←hm] at Hc ⊢;clear hl HC hR hm;go_enter Tryz.func174,Tryz.ntmps174;go_wp2_with fail;refine Hc.out.mono ?_;rintro e w1 ⟨z,rfl,hz,hb1⟩;have Hz:=Lh hz;have Hb1:=Lh hb1;clear hz hb1;go_wp2_with fail;go_ret;exact ⟨aj Hz.out,Hb1.out⟩
theorem Em (x:Sx.Course) (cs:List Value) (bx:Nat) (b:Bool) (w:World) (hbx:aC w bx 177 #[.func (.func 122) #[] #[]]) (hP:aV w (Old w) x cs)
  (H:∀ W,Below w.heap.size w W→aV W (Old W) x cs→Calls Tryz.prog 122 #[.agg cs.toArray] W (ak b W)) :
  Calls Tryz.prog 175 #[.agg cs.toArray,.pointer (some ⟨bx,0,none⟩)] w (ak (!b) w):=by
 have c0:=hbx.cell 0;have hlt:=hbx.lt;simp at c0;have hP':=hP;obtain ⟨s0,i1,i2,i3,i4,i5,s6,i7,i8,A9,n9,c9,Qn,i11,s12,Qo,Qp,Qq,n15,c15,rfl⟩:=jP hP;have hbw:Below w.heap.size w (w.alloc (.cells #[.string s0,.int .i64 i1,.int .i64 i2,.int .i64 i3,.int .i64 i4,.int .i64 i5,.string s6,.int .i64 i7,.int .i64 i8,.slice A9 n9 c9,.int .i64 Qn,.int .i64 i11,.string s12,.int .i64 Qo,.int .i64 Qp,.slice Qq n15 c15] 58)):=(Below.refl _ _).alloc (Nat.le_refl _) _;have Hc:=Lh (H _ hbw (fZ hbw hP'));have gy:=Lh hbw;clear H hbw hP hP' hbx;go_enter Tryz.func175,Tryz.ntmps175
 go_wp2_with fail;refine Hc.out.mono ?_;rintro e w1 ⟨rfl,hb1⟩;have Hb1:=Lh (gy.out.trans (hb1.mono gy.out.size));clear hb1;go_wp2_with fail;go_ret;exact ⟨aj rfl,Hb1.out⟩
theorem En (A:Option Addr) (c:Nat) (l:List Sx.Course) (b:Sx.Course→Bool) (w:World) (hl:Row w (Old w) A 16 (aV w (Old w)) l)
  (H:∀ x∈l,∀ cs W,Below w.heap.size w W→aV W (Old W) x cs→Calls Tryz.prog 122 #[.agg cs.toArray] W (ak (b x) W)) :
  Calls Tryz.prog 121 #[.slice A l.length c,.func (.func 122) #[] #[]] w (ak (l.all b) w):=by
 have hbw:Below w.heap.size w (w.alloc (.cells #[.func (.func 122) #[] #[]] 177)):=(Below.refl _ _).alloc (Nat.le_refl _) _;have hbx:aC (w.alloc (.cells #[.func (.func 122) #[] #[]] 177)) w.heap.size 177 #[.func (.func 122) #[] #[]]:=aC.new _ _ _
 have Hc:=Lh (El A c l w.heap.size b _ (hl.keep (P':=aV (w.alloc (.cells #[.func (.func 122) #[] #[]] 177)) (Old (w.alloc (.cells #[.func (.func 122) #[] #[]] 177)))) (aG hbw) fun _ _ _ h=>fZ hbw h) (fun x hx cs W hW hP=>Em x cs w.heap.size (b x) W (hbx.below hW hbx.lt) hP (fun W' hW' hP'=>H x hx cs W' (hbw.trans ((hW.mono hbw.size).trans (hW'.mono (Nat.le_trans hbw.size hW.size)))) hP')));obtain ⟨m,hm⟩:∃ m,m=l.length:=⟨_,rfl⟩
 obtain ⟨R,hR⟩:∃ R,R=l.all b:=⟨_,rfl⟩
 rw[←hR,←hm] at Hc;rw[←hR,←hm];have gy:=Lh hbw;clear H hbw hbx hl hm hR;go_enter Tryz.func121,Tryz.ntmps121;go_wp2_with fail;refine Hc.out.mono ?_;rintro e w1 ⟨rfl,hb1⟩;have Hb1:=Lh (gy.out.trans (hb1.mono gy.out.size));clear hb1;go_wp2_with fail;go_ret;exact ⟨aj (by simp),Hb1.out⟩
theorem zm {x:Sx.Pair} {cs:List Value} (h:fq x cs):∃ (s0:ByteArray) (s1:ByteArray) (i2:Int) (i3:Int),cs = [.string s0,.string s1,.int .i64 i2,.int .i64 i3]:=by
 obtain ⟨rfl,_,_⟩:=h;exact ⟨_,_,_,_,rfl⟩
theorem xq {w w':World} {x:Sx.Pair} {cs:List Value} (_hb:Below w.heap.size w w') (h:fq x cs):fq x cs:=h
theorem JX (A:Option Addr) (c:Nat) (l:List Sx.Pair) (bx:Nat) (b:Sx.Pair→Bool) (w:World) (hl:Row w (Old w) A 4 (fq) l)
  (HC:∀ x∈l,∀ cs W,Below w.heap.size w W→fq x cs→Calls Tryz.prog 177 #[.agg cs.toArray,.pointer (some ⟨bx,0,none⟩)] W (ak (!b x) W)) :
  Calls Tryz.prog 205 #[.slice A l.length c,.func (.func 177) #[] #[.pointer (some ⟨bx,0,none⟩)]] w (lW (!l.all b) w):=by
 obtain ⟨m,hm⟩:∃ m,m=l.length:=⟨_,rfl⟩
 obtain ⟨R,hR⟩:∃ R,R = !l.all b:=⟨_,rfl⟩
 have z0:=hl.len;rw[←hm] at z0 ⊢;rw[←hR];have Hl:=Lh hl;have Hm:=Lh hm;have HR:=Lh hR;have vH:=Lh HC;clear hl hm hR HC;go_enter Tryz.func205,Tryz.ntmps205;go_wp2_with fail
 go_loopg [8] m (fun gk v8 wr=>∃ i:Nat,v8 = .int .i64 i∧i+gk=m∧Hid (Below w.heap.size w wr)∧Hid (∀ j x,j < i→l[j]?=some x→b x=true))
 case atStart=>exact ⟨0,rfl,by omega,Lh (Below.refl _ _),Lh (fun j x hj=>absurd hj (Nat.not_lt_zero j))⟩
 case round=>
  obtain ⟨i,rfl,hi,Hb,dQ⟩:=hrel;have hws:=Hb.out.size
  by_cases hlt:i < m
  ·obtain ⟨x,hx⟩:∃ x,l[i]?=some x:=⟨_,List.getElem?_eq_getElem (by have:=Hm.out;omega)⟩
   have Hx:=Lh hx;obtain ⟨bk,ok,cs,rfl,hS,hP,hck⟩:=Hl.out.at_ i x hx;have hcall:=vH.out x (List.mem_of_getElem? hx) cs;have hP':=xq Hb.out hP;obtain ⟨s0,s1,i2,i3,rfl⟩:=zm hP;have k0:=(Hb.out.cell (p:=⟨bk,_,none⟩) hS).trans (hck 0 _ rfl);have k1:=(Hb.out.cell (p:=⟨bk,_,none⟩) hS).trans (hck 1 _ rfl);have k2:=(Hb.out.cell (p:=⟨bk,_,none⟩) hS).trans (hck 2 _ rfl);have k3:=(Hb.out.cell (p:=⟨bk,_,none⟩) hS).trans (hck 3 _ rfl);simp only[Nat.add_zero] at k0 k1 k2 k3;have aH:=Lh (hcall wr Hb.out hP');clear hcall hP hP' hck hx;cases hq:b x with
   | false=>
    rw[hq] at aH;have HR2:Hid (R=true):=Lh (by rw [HR.out,jf Hx.out hq];rfl);clear hq;go_wp2_with fail;refine aH.out.mono ?_;rintro e w5 ⟨rfl,hb5⟩;have Hb5:=Lh hb5;clear hb5;go_wp2_with fail;go_ret;exact ⟨i,bU rfl,by rw [HR2.out];simp,Hb.out.trans (Hb5.out.mono hws)⟩
   | true=>
    rw[hq] at aH;have Hq:=Lh hq;clear hq;go_wp2_with fail;refine aH.out.mono ?_;rintro e w5 ⟨rfl,hb5⟩;have Hb5:=Lh hb5;clear hb5;go_wp2_with fail
    go_roundg (gk - 1)
    all_goals first
     | omega
     | exact ⟨i+1,by go_num,by omega,Lh (Hb.out.trans (Hb5.out.mono hws)),Lh (fun j y hj h1=>by
       rcases Nat.lt_or_ge j i with h3 | h3
       ·exact dQ.out j y h3 h1
       ·obtain rfl:j=i:=by omega
        rw[Hx.out] at h1;injection h1 with h1;rw[←h1];exact Hq.out)⟩
  ·obtain rfl:i=m:=by omega
   have HR2:Hid (R=false):=Lh (by rw [HR.out,fA fun j x hj h=>dQ.out j x (by have:=Hm.out;omega) h];rfl);go_wp2_with fail;go_ret;exact ⟨-1,bU rfl,by rw [HR2.out];rfl,Hb.out⟩
theorem JY (A:Option Addr) (c:Nat) (l:List Sx.Pair) (bx:Nat) (b:Sx.Pair→Bool) (w:World) (hl:Row w (Old w) A 4 (fq) l)
  (HC:∀ x∈l,∀ cs W,Below w.heap.size w W→fq x cs→Calls Tryz.prog 177 #[.agg cs.toArray,.pointer (some ⟨bx,0,none⟩)] W (ak (!b x) W)) :
  Calls Tryz.prog 176 #[.slice A l.length c,.func (.func 177) #[] #[.pointer (some ⟨bx,0,none⟩)]] w (ak (!l.all b) w):=by
 have Hc:=Lh (JX A c l bx b w hl HC);obtain ⟨R,hR⟩:∃ R,R = !l.all b:=⟨_,rfl⟩
 obtain ⟨m,hm⟩:∃ m,m=l.length:=⟨_,rfl⟩
 rw[←hR,←hm] at Hc ⊢;clear hl HC hR hm;go_enter Tryz.func176,Tryz.ntmps176;go_wp2_with fail;refine Hc.out.mono ?_;rintro e w1 ⟨z,rfl,hz,hb1⟩;have Hz:=Lh hz;have Hb1:=Lh hb1;clear hz hb1;go_wp2_with fail;go_ret;exact ⟨aj Hz.out,Hb1.out⟩
theorem JZ (x:Sx.Pair) (cs:List Value) (bx:Nat) (b:Bool) (w:World) (hbx:aC w bx 172 #[.func (.func 115) #[] #[]]) (hP:fq x cs)
  (H:∀ W,Below w.heap.size w W→fq x cs→Calls Tryz.prog 115 #[.agg cs.toArray] W (ak b W)) :
  Calls Tryz.prog 177 #[.agg cs.toArray,.pointer (some ⟨bx,0,none⟩)] w (ak (!b) w):=by
 have c0:=hbx.cell 0;have hlt:=hbx.lt;simp at c0;have hP':=hP;obtain ⟨s0,s1,i2,i3,rfl⟩:=zm hP;have hbw:Below w.heap.size w (w.alloc (.cells #[.string s0,.string s1,.int .i64 i2,.int .i64 i3] 71)):=(Below.refl _ _).alloc (Nat.le_refl _) _;have Hc:=Lh (H _ hbw (xq hbw hP'));have gy:=Lh hbw;clear H hbw hP hP' hbx;go_enter Tryz.func177,Tryz.ntmps177;go_wp2_with fail;refine Hc.out.mono ?_;rintro e w1 ⟨rfl,hb1⟩;have Hb1:=Lh (gy.out.trans (hb1.mono gy.out.size));clear hb1;go_wp2_with fail;go_ret;exact ⟨aj rfl,Hb1.out⟩
theorem J2 (A:Option Addr) (c:Nat) (l:List Sx.Pair) (b:Sx.Pair→Bool) (w:World) (hl:Row w (Old w) A 4 (fq) l)
  (H:∀ x∈l,∀ cs W,Below w.heap.size w W→fq x cs→Calls Tryz.prog 115 #[.agg cs.toArray] W (ak (b x) W)) :
  Calls Tryz.prog 123 #[.slice A l.length c,.func (.func 115) #[] #[]] w (ak (l.all b) w):=by
 have hbw:Below w.heap.size w (w.alloc (.cells #[.func (.func 115) #[] #[]] 172)):=(Below.refl _ _).alloc (Nat.le_refl _) _;have hbx:aC (w.alloc (.cells #[.func (.func 115) #[] #[]] 172)) w.heap.size 172 #[.func (.func 115) #[] #[]]:=aC.new _ _ _;have Hc:=Lh (JY A c l w.heap.size b _ (hl.keep (P':=fq) (aG hbw) fun _ _ _ h=>xq hbw h) (fun x hx cs W hW hP=>JZ x cs w.heap.size (b x) W (hbx.below hW hbx.lt) hP (fun W' hW' hP'=>H x hx cs W' (hbw.trans ((hW.mono hbw.size).trans (hW'.mono (Nat.le_trans hbw.size hW.size)))) hP')));obtain ⟨m,hm⟩:∃ m,m=l.length:=⟨_,rfl⟩
 obtain ⟨R,hR⟩:∃ R,R=l.all b:=⟨_,rfl⟩
 rw[←hR,←hm] at Hc;rw[←hR,←hm];have gy:=Lh hbw;clear H hbw hbx hl hm hR;go_enter Tryz.func123,Tryz.ntmps123;go_wp2_with fail;refine Hc.out.mono ?_;rintro e w1 ⟨rfl,hb1⟩;have Hb1:=Lh (gy.out.trans (hb1.mono gy.out.size));clear hb1;go_wp2_with fail;go_ret;exact ⟨aj (by simp),Hb1.out⟩
theorem kS {w:World} {S:Nat→Prop} {x:Sx.Prog} {cs:List Value} (h:bS w S x cs):∃ (s0:ByteArray) (i1:Int) (i2:Int) (i3:Int) (i4:Int) (i5:Int) (A6:Option Addr) (n6 c6:Nat),cs = [.string s0,.int .i64 i1,.int .i64 i2,.int .i64 i3,.int .i64 i4,.int .i64 i5,.slice A6 n6 c6]:=by
 obtain ⟨A,c,rfl,_⟩:=h;exact ⟨_,_,_,_,_,_,_,_,_,rfl⟩
theorem iy {w w':World} {x:Sx.Prog} {cs:List Value} (hb:Below w.heap.size w w') (h:bS w (Old w) x cs):bS w' (Old w') x cs:=bS.keep (aG hb) h
theorem J3 (A:Option Addr) (c:Nat) (l:List Sx.Prog) (bx:Nat) (b:Sx.Prog→Bool) (w:World) (hl:Row w (Old w) A 7 (bS w (Old w)) l)
  (HC:∀ x∈l,∀ cs W,Below w.heap.size w W→bS W (Old W) x cs→Calls Tryz.prog 179 #[.agg cs.toArray,.pointer (some ⟨bx,0,none⟩)] W (ak (!b x) W)) :
  Calls Tryz.prog 206 #[.slice A l.length c,.func (.func 179) #[] #[.pointer (some ⟨bx,0,none⟩)]] w (lW (!l.all b) w):=by
 obtain ⟨m,hm⟩:∃ m,m=l.length:=⟨_,rfl⟩
 obtain ⟨R,hR⟩:∃ R,R = !l.all b:=⟨_,rfl⟩
 have z0:=hl.len;rw[←hm] at z0 ⊢;rw[←hR];have Hl:=Lh hl;have Hm:=Lh hm;have HR:=Lh hR;have vH:=Lh HC;clear hl hm hR HC;go_enter Tryz.func206,Tryz.ntmps206;go_wp2_with fail
 go_loopg [8] m (fun gk v8 wr=>∃ i:Nat,v8 = .int .i64 i∧i+gk=m∧Hid (Below w.heap.size w wr)∧Hid (∀ j x,j < i→l[j]?=some x→b x=true))
 case atStart=>exact ⟨0,rfl,by omega,Lh (Below.refl _ _),Lh (fun j x hj=>absurd hj (Nat.not_lt_zero j))⟩
 case round=>
  obtain ⟨i,rfl,hi,Hb,dQ⟩:=hrel;have hws:=Hb.out.size
  by_cases hlt:i < m
  ·obtain ⟨x,hx⟩:∃ x,l[i]?=some x:=⟨_,List.getElem?_eq_getElem (by have:=Hm.out;omega)⟩
   have Hx:=Lh hx;obtain ⟨bk,ok,cs,rfl,hS,hP,hck⟩:=Hl.out.at_ i x hx;have hcall:=vH.out x (List.mem_of_getElem? hx) cs;have hP':=iy Hb.out hP;obtain ⟨s0,i1,i2,i3,i4,i5,A6,n6,c6,rfl⟩:=kS hP;have k0:=(Hb.out.cell (p:=⟨bk,_,none⟩) hS).trans (hck 0 _ rfl);have k1:=(Hb.out.cell (p:=⟨bk,_,none⟩) hS).trans (hck 1 _ rfl);have k2:=(Hb.out.cell (p:=⟨bk,_,none⟩) hS).trans (hck 2 _ rfl);have k3:=(Hb.out.cell (p:=⟨bk,_,none⟩) hS).trans (hck 3 _ rfl);have k4:=(Hb.out.cell (p:=⟨bk,_,none⟩) hS).trans (hck 4 _ rfl);have k5:=(Hb.out.cell (p:=⟨bk,_,none⟩) hS).trans (hck 5 _ rfl)
   have k6:=(Hb.out.cell (p:=⟨bk,_,none⟩) hS).trans (hck 6 _ rfl);simp only[Nat.add_zero] at k0 k1 k2 k3 k4 k5 k6;have aH:=Lh (hcall wr Hb.out hP');clear hcall hP hP' hck hx;cases hq:b x with
   | false=>
    rw[hq] at aH;have HR2:Hid (R=true):=Lh (by rw [HR.out,jf Hx.out hq];rfl);clear hq;go_wp2_with fail;refine aH.out.mono ?_;rintro e w5 ⟨rfl,hb5⟩;have Hb5:=Lh hb5;clear hb5;go_wp2_with fail;go_ret;exact ⟨i,bU rfl,by rw [HR2.out];simp,Hb.out.trans (Hb5.out.mono hws)⟩
   | true=>
    rw[hq] at aH;have Hq:=Lh hq;clear hq;go_wp2_with fail;refine aH.out.mono ?_;rintro e w5 ⟨rfl,hb5⟩;have Hb5:=Lh hb5;clear hb5;go_wp2_with fail
    go_roundg (gk - 1)
    all_goals first
     | omega
     | exact ⟨i+1,by go_num,by omega,Lh (Hb.out.trans (Hb5.out.mono hws)),Lh (fun j y hj h1=>by
       rcases Nat.lt_or_ge j i with h3 | h3
       ·exact dQ.out j y h3 h1
       ·obtain rfl:j=i:=by omega
        rw[Hx.out] at h1;injection h1 with h1;rw[←h1];exact Hq.out)⟩
  ·obtain rfl:i=m:=by omega
   have HR2:Hid (R=false):=Lh (by rw [HR.out,fA fun j x hj h=>dQ.out j x (by have:=Hm.out;omega) h];rfl);go_wp2_with fail;go_ret;exact ⟨-1,bU rfl,by rw [HR2.out];rfl,Hb.out⟩
theorem J4 (A:Option Addr) (c:Nat) (l:List Sx.Prog) (bx:Nat) (b:Sx.Prog→Bool) (w:World) (hl:Row w (Old w) A 7 (bS w (Old w)) l)
  (HC:∀ x∈l,∀ cs W,Below w.heap.size w W→bS W (Old W) x cs→Calls Tryz.prog 179 #[.agg cs.toArray,.pointer (some ⟨bx,0,none⟩)] W (ak (!b x) W)) :
  Calls Tryz.prog 178 #[.slice A l.length c,.func (.func 179) #[] #[.pointer (some ⟨bx,0,none⟩)]] w (ak (!l.all b) w):=by
 have Hc:=Lh (J3 A c l bx b w hl HC);obtain ⟨R,hR⟩:∃ R,R = !l.all b:=⟨_,rfl⟩
 obtain ⟨m,hm⟩:∃ m,m=l.length:=⟨_,rfl⟩
 rw[←hR,←hm] at Hc ⊢;clear hl HC hR hm;go_enter Tryz.func178,Tryz.ntmps178;go_wp2_with fail;refine Hc.out.mono ?_;rintro e w1 ⟨z,rfl,hz,hb1⟩;have Hz:=Lh hz;have Hb1:=Lh hb1;clear hz hb1;go_wp2_with fail;go_ret;exact ⟨aj Hz.out,Hb1.out⟩
theorem J5 (x:Sx.Prog) (cs:List Value) (bx:Nat) (b:Bool) (w:World) (hbx:aC w bx 180 #[.func (.func 125) #[] #[]]) (hP:bS w (Old w) x cs)
  (H:∀ W,Below w.heap.size w W→bS W (Old W) x cs→Calls Tryz.prog 125 #[.agg cs.toArray] W (ak b W)) :
  Calls Tryz.prog 179 #[.agg cs.toArray,.pointer (some ⟨bx,0,none⟩)] w (ak (!b) w):=by
 have c0:=hbx.cell 0;have hlt:=hbx.lt;simp at c0;have hP':=hP;obtain ⟨s0,i1,i2,i3,i4,i5,A6,n6,c6,rfl⟩:=kS hP;have hbw:Below w.heap.size w (w.alloc (.cells #[.string s0,.int .i64 i1,.int .i64 i2,.int .i64 i3,.int .i64 i4,.int .i64 i5,.slice A6 n6 c6] 78)):=(Below.refl _ _).alloc (Nat.le_refl _) _;have Hc:=Lh (H _ hbw (iy hbw hP'));have gy:=Lh hbw;clear H hbw hP hP' hbx;go_enter Tryz.func179,Tryz.ntmps179;go_wp2_with fail;refine Hc.out.mono ?_;rintro e w1 ⟨rfl,hb1⟩;have Hb1:=Lh (gy.out.trans (hb1.mono gy.out.size));clear hb1;go_wp2_with fail;go_ret;exact ⟨aj rfl,Hb1.out⟩
theorem J6 (A:Option Addr) (c:Nat) (l:List Sx.Prog) (b:Sx.Prog→Bool) (w:World) (hl:Row w (Old w) A 7 (bS w (Old w)) l)
  (H:∀ x∈l,∀ cs W,Below w.heap.size w W→bS W (Old W) x cs→Calls Tryz.prog 125 #[.agg cs.toArray] W (ak (b x) W)) :
  Calls Tryz.prog 124 #[.slice A l.length c,.func (.func 125) #[] #[]] w (ak (l.all b) w):=by
 have hbw:Below w.heap.size w (w.alloc (.cells #[.func (.func 125) #[] #[]] 180)):=(Below.refl _ _).alloc (Nat.le_refl _) _;have hbx:aC (w.alloc (.cells #[.func (.func 125) #[] #[]] 180)) w.heap.size 180 #[.func (.func 125) #[] #[]]:=aC.new _ _ _
 have Hc:=Lh (J4 A c l w.heap.size b _ (hl.keep (P':=bS (w.alloc (.cells #[.func (.func 125) #[] #[]] 180)) (Old (w.alloc (.cells #[.func (.func 125) #[] #[]] 180)))) (aG hbw) fun _ _ _ h=>iy hbw h) (fun x hx cs W hW hP=>J5 x cs w.heap.size (b x) W (hbx.below hW hbx.lt) hP (fun W' hW' hP'=>H x hx cs W' (hbw.trans ((hW.mono hbw.size).trans (hW'.mono (Nat.le_trans hbw.size hW.size)))) hP')));obtain ⟨m,hm⟩:∃ m,m=l.length:=⟨_,rfl⟩
 obtain ⟨R,hR⟩:∃ R,R=l.all b:=⟨_,rfl⟩
 rw[←hR,←hm] at Hc;rw[←hR,←hm];have gy:=Lh hbw;clear H hbw hbx hl hm hR;go_enter Tryz.func124,Tryz.ntmps124;go_wp2_with fail;refine Hc.out.mono ?_;rintro e w1 ⟨rfl,hb1⟩;have Hb1:=Lh (gy.out.trans (hb1.mono gy.out.size));clear hb1;go_wp2_with fail;go_ret;exact ⟨aj (by simp),Hb1.out⟩
theorem Ck {x:Sx.Cls} {cs:List Value} (h:eu x cs):∃ (s0:ByteArray) (i1:Int) (i2:Int) (i3:Int),cs = [.string s0,.int .i64 i1,.int .i64 i2,.int .i64 i3]:=by
 obtain ⟨rfl,_⟩:=h;exact ⟨_,_,_,_,rfl⟩
theorem Ay {w w':World} {x:Sx.Cls} {cs:List Value} (_hb:Below w.heap.size w w') (h:eu x cs):eu x cs:=h
theorem MX (A:Option Addr) (c:Nat) (l:List Sx.Cls) (bx:Nat) (b:Sx.Cls→Bool) (w:World) (hl:Row w (Old w) A 4 (eu) l)
  (HC:∀ x∈l,∀ cs W,Below w.heap.size w W→eu x cs→Calls Tryz.prog 183 #[.agg cs.toArray,.pointer (some ⟨bx,0,none⟩)] W (ak (!b x) W)) :
  Calls Tryz.prog 209 #[.slice A l.length c,.func (.func 183) #[] #[.pointer (some ⟨bx,0,none⟩)]] w (lW (!l.all b) w):=by
 obtain ⟨m,hm⟩:∃ m,m=l.length:=⟨_,rfl⟩
 obtain ⟨R,hR⟩:∃ R,R = !l.all b:=⟨_,rfl⟩
 have z0:=hl.len;rw[←hm] at z0 ⊢;rw[←hR];have Hl:=Lh hl;have Hm:=Lh hm;have HR:=Lh hR;have vH:=Lh HC;clear hl hm hR HC;go_enter Tryz.func209,Tryz.ntmps209;go_wp2_with fail
 go_loopg [8] m (fun gk v8 wr=>∃ i:Nat,v8 = .int .i64 i∧i+gk=m∧Hid (Below w.heap.size w wr)∧Hid (∀ j x,j < i→l[j]?=some x→b x=true))
 case atStart=>exact ⟨0,rfl,by omega,Lh (Below.refl _ _),Lh (fun j x hj=>absurd hj (Nat.not_lt_zero j))⟩
 case round=>
  obtain ⟨i,rfl,hi,Hb,dQ⟩:=hrel;have hws:=Hb.out.size
  by_cases hlt:i < m
  ·obtain ⟨x,hx⟩:∃ x,l[i]?=some x:=⟨_,List.getElem?_eq_getElem (by have:=Hm.out;omega)⟩
   have Hx:=Lh hx;obtain ⟨bk,ok,cs,rfl,hS,hP,hck⟩:=Hl.out.at_ i x hx;have hcall:=vH.out x (List.mem_of_getElem? hx) cs;have hP':=Ay Hb.out hP;obtain ⟨s0,i1,i2,i3,rfl⟩:=Ck hP;have k0:=(Hb.out.cell (p:=⟨bk,_,none⟩) hS).trans (hck 0 _ rfl);have k1:=(Hb.out.cell (p:=⟨bk,_,none⟩) hS).trans (hck 1 _ rfl);have k2:=(Hb.out.cell (p:=⟨bk,_,none⟩) hS).trans (hck 2 _ rfl);have k3:=(Hb.out.cell (p:=⟨bk,_,none⟩) hS).trans (hck 3 _ rfl);simp only[Nat.add_zero] at k0 k1 k2 k3;have aH:=Lh (hcall wr Hb.out hP');clear hcall hP hP' hck hx;cases hq:b x with
   | false=>
    rw[hq] at aH;have HR2:Hid (R=true):=Lh (by rw [HR.out,jf Hx.out hq];rfl);clear hq;go_wp2_with fail;refine aH.out.mono ?_;rintro e w5 ⟨rfl,hb5⟩;have Hb5:=Lh hb5;clear hb5;go_wp2_with fail;go_ret;exact ⟨i,bU rfl,by rw [HR2.out];simp,Hb.out.trans (Hb5.out.mono hws)⟩
   | true=>
    rw[hq] at aH;have Hq:=Lh hq;clear hq;go_wp2_with fail;refine aH.out.mono ?_;rintro e w5 ⟨rfl,hb5⟩;have Hb5:=Lh hb5;clear hb5;go_wp2_with fail
    go_roundg (gk - 1)
    all_goals first
     | omega
     | exact ⟨i+1,by go_num,by omega,Lh (Hb.out.trans (Hb5.out.mono hws)),Lh (fun j y hj h1=>by
       rcases Nat.lt_or_ge j i with h3 | h3
       ·exact dQ.out j y h3 h1
       ·obtain rfl:j=i:=by omega
        rw[Hx.out] at h1;injection h1 with h1;rw[←h1];exact Hq.out)⟩
  ·obtain rfl:i=m:=by omega
   have HR2:Hid (R=false):=Lh (by rw [HR.out,fA fun j x hj h=>dQ.out j x (by have:=Hm.out;omega) h];rfl);go_wp2_with fail;go_ret;exact ⟨-1,bU rfl,by rw [HR2.out];rfl,Hb.out⟩
theorem MZ (A:Option Addr) (c:Nat) (l:List Sx.Cls) (bx:Nat) (b:Sx.Cls→Bool) (w:World) (hl:Row w (Old w) A 4 (eu) l)
  (HC:∀ x∈l,∀ cs W,Below w.heap.size w W→eu x cs→Calls Tryz.prog 183 #[.agg cs.toArray,.pointer (some ⟨bx,0,none⟩)] W (ak (!b x) W)) :
  Calls Tryz.prog 182 #[.slice A l.length c,.func (.func 183) #[] #[.pointer (some ⟨bx,0,none⟩)]] w (ak (!l.all b) w):=by
 have Hc:=Lh (MX A c l bx b w hl HC);obtain ⟨R,hR⟩:∃ R,R = !l.all b:=⟨_,rfl⟩
 obtain ⟨m,hm⟩:∃ m,m=l.length:=⟨_,rfl⟩
 rw[←hR,←hm] at Hc ⊢;clear hl HC hR hm;go_enter Tryz.func182,Tryz.ntmps182;go_wp2_with fail;refine Hc.out.mono ?_;rintro e w1 ⟨z,rfl,hz,hb1⟩;have Hz:=Lh hz;have Hb1:=Lh hb1;clear hz hb1;go_wp2_with fail;go_ret;exact ⟨aj Hz.out,Hb1.out⟩
theorem M6 (x:Sx.Cls) (cs:List Value) (bx:Nat) (b:Bool) (w:World) (hbx:aC w bx 182 #[.func (.func 127) #[] #[]]) (hP:eu x cs)
  (H:∀ W,Below w.heap.size w W→eu x cs→Calls Tryz.prog 127 #[.agg cs.toArray] W (ak b W)) :
  Calls Tryz.prog 183 #[.agg cs.toArray,.pointer (some ⟨bx,0,none⟩)] w (ak (!b) w):=by
 have c0:=hbx.cell 0;have hlt:=hbx.lt;simp at c0;have hP':=hP;obtain ⟨s0,i1,i2,i3,rfl⟩:=Ck hP;have hbw:Below w.heap.size w (w.alloc (.cells #[.string s0,.int .i64 i1,.int .i64 i2,.int .i64 i3] 82)):=(Below.refl _ _).alloc (Nat.le_refl _) _;have Hc:=Lh (H _ hbw (Ay hbw hP'));have gy:=Lh hbw;clear H hbw hP hP' hbx;go_enter Tryz.func183,Tryz.ntmps183;go_wp2_with fail;refine Hc.out.mono ?_;rintro e w1 ⟨rfl,hb1⟩;have Hb1:=Lh (gy.out.trans (hb1.mono gy.out.size));clear hb1;go_wp2_with fail;go_ret;exact ⟨aj rfl,Hb1.out⟩
theorem Fz (A:Option Addr) (c:Nat) (l:List Sx.Cls) (b:Sx.Cls→Bool) (w:World) (hl:Row w (Old w) A 4 (eu) l)
  (H:∀ x∈l,∀ cs W,Below w.heap.size w W→eu x cs→Calls Tryz.prog 127 #[.agg cs.toArray] W (ak (b x) W)) :
  Calls Tryz.prog 126 #[.slice A l.length c,.func (.func 127) #[] #[]] w (ak (l.all b) w):=by
 have hbw:Below w.heap.size w (w.alloc (.cells #[.func (.func 127) #[] #[]] 182)):=(Below.refl _ _).alloc (Nat.le_refl _) _;have hbx:aC (w.alloc (.cells #[.func (.func 127) #[] #[]] 182)) w.heap.size 182 #[.func (.func 127) #[] #[]]:=aC.new _ _ _;have Hc:=Lh (MZ A c l w.heap.size b _ (hl.keep (P':=eu) (aG hbw) fun _ _ _ h=>Ay hbw h) (fun x hx cs W hW hP=>M6 x cs w.heap.size (b x) W (hbx.below hW hbx.lt) hP (fun W' hW' hP'=>H x hx cs W' (hbw.trans ((hW.mono hbw.size).trans (hW'.mono (Nat.le_trans hbw.size hW.size)))) hP')));obtain ⟨m,hm⟩:∃ m,m=l.length:=⟨_,rfl⟩
 obtain ⟨R,hR⟩:∃ R,R=l.all b:=⟨_,rfl⟩
 rw[←hR,←hm] at Hc;rw[←hR,←hm];have gy:=Lh hbw;clear H hbw hbx hl hm hR;go_enter Tryz.func126,Tryz.ntmps126;go_wp2_with fail;refine Hc.out.mono ?_;rintro e w1 ⟨rfl,hb1⟩;have Hb1:=Lh (gy.out.trans (hb1.mono gy.out.size));clear hb1;go_wp2_with fail;go_ret;exact ⟨aj (by simp),Hb1.out⟩
theorem Cm {x:Sx.tL} {cs:List Value} (h:gG x cs):∃ (s0:ByteArray) (i1:Int),cs = [.string s0,.int .i64 i1]:=by
 obtain ⟨rfl,_⟩:=h;exact ⟨_,_,rfl⟩
theorem Az {w w':World} {x:Sx.tL} {cs:List Value} (_hb:Below w.heap.size w w') (h:gG x cs):gG x cs:=h
theorem M7 (A:Option Addr) (c:Nat) (l:List Sx.tL) (bx:Nat) (b:Sx.tL→Bool) (w:World) (hl:Row w (Old w) A 2 (gG) l)
  (HC:∀ x∈l,∀ cs W,Below w.heap.size w W→gG x cs→Calls Tryz.prog 185 #[.agg cs.toArray,.pointer (some ⟨bx,0,none⟩)] W (ak (!b x) W)) :
  Calls Tryz.prog 210 #[.slice A l.length c,.func (.func 185) #[] #[.pointer (some ⟨bx,0,none⟩)]] w (lW (!l.all b) w):=by
 obtain ⟨m,hm⟩:∃ m,m=l.length:=⟨_,rfl⟩
 obtain ⟨R,hR⟩:∃ R,R = !l.all b:=⟨_,rfl⟩
 have z0:=hl.len;rw[←hm] at z0 ⊢;rw[←hR];have Hl:=Lh hl;have Hm:=Lh hm;have HR:=Lh hR;have vH:=Lh HC;clear hl hm hR HC;go_enter Tryz.func210,Tryz.ntmps210;go_wp2_with fail
 go_loopg [8] m (fun gk v8 wr=>∃ i:Nat,v8 = .int .i64 i∧i+gk=m∧Hid (Below w.heap.size w wr)∧Hid (∀ j x,j < i→l[j]?=some x→b x=true))
 case atStart=>exact ⟨0,rfl,by omega,Lh (Below.refl _ _),Lh (fun j x hj=>absurd hj (Nat.not_lt_zero j))⟩
 case round=>
  obtain ⟨i,rfl,hi,Hb,dQ⟩:=hrel;have hws:=Hb.out.size
  by_cases hlt:i < m
  ·obtain ⟨x,hx⟩:∃ x,l[i]?=some x:=⟨_,List.getElem?_eq_getElem (by have:=Hm.out;omega)⟩
   have Hx:=Lh hx;obtain ⟨bk,ok,cs,rfl,hS,hP,hck⟩:=Hl.out.at_ i x hx;have hcall:=vH.out x (List.mem_of_getElem? hx) cs;have hP':=Az Hb.out hP;obtain ⟨s0,i1,rfl⟩:=Cm hP;have k0:=(Hb.out.cell (p:=⟨bk,_,none⟩) hS).trans (hck 0 _ rfl);have k1:=(Hb.out.cell (p:=⟨bk,_,none⟩) hS).trans (hck 1 _ rfl);simp only[Nat.add_zero] at k0 k1;have aH:=Lh (hcall wr Hb.out hP');clear hcall hP hP' hck hx;cases hq:b x with
   | false=>
    rw[hq] at aH;have HR2:Hid (R=true):=Lh (by rw [HR.out,jf Hx.out hq];rfl);clear hq;go_wp2_with fail;refine aH.out.mono ?_;rintro e w5 ⟨rfl,hb5⟩;have Hb5:=Lh hb5;clear hb5;go_wp2_with fail;go_ret;exact ⟨i,bU rfl,by rw [HR2.out];simp,Hb.out.trans (Hb5.out.mono hws)⟩
   | true=>
    rw[hq] at aH;have Hq:=Lh hq;clear hq;go_wp2_with fail;refine aH.out.mono ?_;rintro e w5 ⟨rfl,hb5⟩;have Hb5:=Lh hb5;clear hb5;go_wp2_with fail
    go_roundg (gk - 1)
    all_goals first
     | omega
     | exact ⟨i+1,by go_num,by omega,Lh (Hb.out.trans (Hb5.out.mono hws)),Lh (fun j y hj h1=>by
       rcases Nat.lt_or_ge j i with h3 | h3
       ·exact dQ.out j y h3 h1
       ·obtain rfl:j=i:=by omega
        rw[Hx.out] at h1;injection h1 with h1;rw[←h1];exact Hq.out)⟩
  ·obtain rfl:i=m:=by omega
   have HR2:Hid (R=false):=Lh (by rw [HR.out,fA fun j x hj h=>dQ.out j x (by have:=Hm.out;omega) h];rfl);go_wp2_with fail;go_ret;exact ⟨-1,bU rfl,by rw [HR2.out];rfl,Hb.out⟩
theorem M8 (A:Option Addr) (c:Nat) (l:List Sx.tL) (bx:Nat) (b:Sx.tL→Bool) (w:World) (hl:Row w (Old w) A 2 (gG) l)
  (HC:∀ x∈l,∀ cs W,Below w.heap.size w W→gG x cs→Calls Tryz.prog 185 #[.agg cs.toArray,.pointer (some ⟨bx,0,none⟩)] W (ak (!b x) W)) :
  Calls Tryz.prog 184 #[.slice A l.length c,.func (.func 185) #[] #[.pointer (some ⟨bx,0,none⟩)]] w (ak (!l.all b) w):=by
 have Hc:=Lh (M7 A c l bx b w hl HC);obtain ⟨R,hR⟩:∃ R,R = !l.all b:=⟨_,rfl⟩
 obtain ⟨m,hm⟩:∃ m,m=l.length:=⟨_,rfl⟩
 rw[←hR,←hm] at Hc ⊢;clear hl HC hR hm;go_enter Tryz.func184,Tryz.ntmps184;go_wp2_with fail;refine Hc.out.mono ?_;rintro e w1 ⟨z,rfl,hz,hb1⟩;have Hz:=Lh hz;have Hb1:=Lh hb1;clear hz hb1;go_wp2_with fail;go_ret;exact ⟨aj Hz.out,Hb1.out⟩
theorem M9 (x:Sx.tL) (cs:List Value) (bx:Nat) (b:Bool) (w:World) (hbx:aC w bx 174 #[.func (.func 117) #[] #[]]) (hP:gG x cs)
  (H:∀ W,Below w.heap.size w W→gG x cs→Calls Tryz.prog 117 #[.agg cs.toArray] W (ak b W)) :
  Calls Tryz.prog 185 #[.agg cs.toArray,.pointer (some ⟨bx,0,none⟩)] w (ak (!b) w):=by
 have c0:=hbx.cell 0;have hlt:=hbx.lt;simp at c0;have hP':=hP;obtain ⟨s0,i1,rfl⟩:=Cm hP;have hbw:Below w.heap.size w (w.alloc (.cells #[.string s0,.int .i64 i1] 86)):=(Below.refl _ _).alloc (Nat.le_refl _) _;have Hc:=Lh (H _ hbw (Az hbw hP'));have gy:=Lh hbw;clear H hbw hP hP' hbx;go_enter Tryz.func185,Tryz.ntmps185;go_wp2_with fail;refine Hc.out.mono ?_;rintro e w1 ⟨rfl,hb1⟩;have Hb1:=Lh (gy.out.trans (hb1.mono gy.out.size));clear hb1;go_wp2_with fail;go_ret;exact ⟨aj rfl,Hb1.out⟩
theorem Na (A:Option Addr) (c:Nat) (l:List Sx.tL) (b:Sx.tL→Bool) (w:World) (hl:Row w (Old w) A 2 (gG) l)
  (H:∀ x∈l,∀ cs W,Below w.heap.size w W→gG x cs→Calls Tryz.prog 117 #[.agg cs.toArray] W (ak (b x) W)) :
  Calls Tryz.prog 128 #[.slice A l.length c,.func (.func 117) #[] #[]] w (ak (l.all b) w):=by
 have hbw:Below w.heap.size w (w.alloc (.cells #[.func (.func 117) #[] #[]] 174)):=(Below.refl _ _).alloc (Nat.le_refl _) _;have hbx:aC (w.alloc (.cells #[.func (.func 117) #[] #[]] 174)) w.heap.size 174 #[.func (.func 117) #[] #[]]:=aC.new _ _ _;have Hc:=Lh (M8 A c l w.heap.size b _ (hl.keep (P':=gG) (aG hbw) fun _ _ _ h=>Az hbw h) (fun x hx cs W hW hP=>M9 x cs w.heap.size (b x) W (hbx.below hW hbx.lt) hP (fun W' hW' hP'=>H x hx cs W' (hbw.trans ((hW.mono hbw.size).trans (hW'.mono (Nat.le_trans hbw.size hW.size)))) hP')));obtain ⟨m,hm⟩:∃ m,m=l.length:=⟨_,rfl⟩
 obtain ⟨R,hR⟩:∃ R,R=l.all b:=⟨_,rfl⟩
 rw[←hR,←hm] at Hc;rw[←hR,←hm];have gy:=Lh hbw;clear H hbw hbx hl hm hR;go_enter Tryz.func128,Tryz.ntmps128;go_wp2_with fail;refine Hc.out.mono ?_;rintro e w1 ⟨rfl,hb1⟩;have Hb1:=Lh (gy.out.trans (hb1.mono gy.out.size));clear hb1;go_wp2_with fail;go_ret;exact ⟨aj (by simp),Hb1.out⟩
theorem uP {x:Sx.Clause} {cs:List Value} (h:bH x cs):∃ (i0:Int) (i1:Int) (i2:Int) (i3:Int),cs = [.int .i64 i0,.int .i64 i1,.int .i64 i2,.int .i64 i3]:=by
 unfold bH at h;subst h;exact ⟨_,_,_,_,rfl⟩
theorem rD {w w':World} {x:Sx.Clause} {cs:List Value} (_hb:Below w.heap.size w w') (h:bH x cs):bH x cs:=h
theorem Eo (A:Option Addr) (c:Nat) (l:List Sx.Clause) (bx:Nat) (b:Sx.Clause→Bool) (w:World) (hl:Row w (Old w) A 4 (bH) l)
  (HC:∀ x∈l,∀ cs W,Below w.heap.size w W→bH x cs→Calls Tryz.prog 187 #[.agg cs.toArray,.pointer (some ⟨bx,0,none⟩)] W (ak (!b x) W)) :
  Calls Tryz.prog 211 #[.slice A l.length c,.func (.func 187) #[] #[.pointer (some ⟨bx,0,none⟩)]] w (lW (!l.all b) w):=by
 obtain ⟨m,hm⟩:∃ m,m=l.length:=⟨_,rfl⟩
 obtain ⟨R,hR⟩:∃ R,R = !l.all b:=⟨_,rfl⟩
 have z0:=hl.len;rw[←hm] at z0 ⊢;rw[←hR];have Hl:=Lh hl;have Hm:=Lh hm;have HR:=Lh hR;have vH:=Lh HC;clear hl hm hR HC;go_enter Tryz.func211,Tryz.ntmps211;go_wp2_with fail
 go_loopg [8] m (fun gk v8 wr=>∃ i:Nat,v8 = .int .i64 i∧i+gk=m∧Hid (Below w.heap.size w wr)∧Hid (∀ j x,j < i→l[j]?=some x→b x=true))
 case atStart=>exact ⟨0,rfl,by omega,Lh (Below.refl _ _),Lh (fun j x hj=>absurd hj (Nat.not_lt_zero j))⟩
 case round=>
  obtain ⟨i,rfl,hi,Hb,dQ⟩:=hrel;have hws:=Hb.out.size
  by_cases hlt:i < m
  ·obtain ⟨x,hx⟩:∃ x,l[i]?=some x:=⟨_,List.getElem?_eq_getElem (by have:=Hm.out;omega)⟩
   have Hx:=Lh hx;obtain ⟨bk,ok,cs,rfl,hS,hP,hck⟩:=Hl.out.at_ i x hx;have hcall:=vH.out x (List.mem_of_getElem? hx) cs;have hP':=rD Hb.out hP;obtain ⟨i0,i1,i2,i3,rfl⟩:=uP hP;have k0:=(Hb.out.cell (p:=⟨bk,_,none⟩) hS).trans (hck 0 _ rfl);have k1:=(Hb.out.cell (p:=⟨bk,_,none⟩) hS).trans (hck 1 _ rfl);have k2:=(Hb.out.cell (p:=⟨bk,_,none⟩) hS).trans (hck 2 _ rfl);have k3:=(Hb.out.cell (p:=⟨bk,_,none⟩) hS).trans (hck 3 _ rfl);simp only[Nat.add_zero] at k0 k1 k2 k3;have aH:=Lh (hcall wr Hb.out hP');clear hcall hP hP' hck hx;cases hq:b x with
   | false=>
    rw[hq] at aH;have HR2:Hid (R=true):=Lh (by rw [HR.out,jf Hx.out hq];rfl);clear hq;go_wp2_with fail;refine aH.out.mono ?_;rintro e w5 ⟨rfl,hb5⟩;have Hb5:=Lh hb5;clear hb5;go_wp2_with fail;go_ret;exact ⟨i,bU rfl,by rw [HR2.out];simp,Hb.out.trans (Hb5.out.mono hws)⟩
   | true=>
    rw[hq] at aH;have Hq:=Lh hq;clear hq;go_wp2_with fail;refine aH.out.mono ?_;rintro e w5 ⟨rfl,hb5⟩;have Hb5:=Lh hb5;clear hb5;go_wp2_with fail
    go_roundg (gk - 1)
    all_goals first
     | omega
     | exact ⟨i+1,by go_num,by omega,Lh (Hb.out.trans (Hb5.out.mono hws)),Lh (fun j y hj h1=>by
       rcases Nat.lt_or_ge j i with h3 | h3
       ·exact dQ.out j y h3 h1
       ·obtain rfl:j=i:=by omega
        rw[Hx.out] at h1;injection h1 with h1;rw[←h1];exact Hq.out)⟩
  ·obtain rfl:i=m:=by omega
   have HR2:Hid (R=false):=Lh (by rw [HR.out,fA fun j x hj h=>dQ.out j x (by have:=Hm.out;omega) h];rfl);go_wp2_with fail;go_ret;exact ⟨-1,bU rfl,by rw [HR2.out];rfl,Hb.out⟩
theorem Ep (A:Option Addr) (c:Nat) (l:List Sx.Clause) (bx:Nat) (b:Sx.Clause→Bool) (w:World) (hl:Row w (Old w) A 4 (bH) l)
  (HC:∀ x∈l,∀ cs W,Below w.heap.size w W→bH x cs→Calls Tryz.prog 187 #[.agg cs.toArray,.pointer (some ⟨bx,0,none⟩)] W (ak (!b x) W)) :
  Calls Tryz.prog 186 #[.slice A l.length c,.func (.func 187) #[] #[.pointer (some ⟨bx,0,none⟩)]] w (ak (!l.all b) w):=by
 have Hc:=Lh (Eo A c l bx b w hl HC);obtain ⟨R,hR⟩:∃ R,R = !l.all b:=⟨_,rfl⟩
 obtain ⟨m,hm⟩:∃ m,m=l.length:=⟨_,rfl⟩
 rw[←hR,←hm] at Hc ⊢;clear hl HC hR hm;go_enter Tryz.func186,Tryz.ntmps186;go_wp2_with fail;refine Hc.out.mono ?_;rintro e w1 ⟨z,rfl,hz,hb1⟩;have Hz:=Lh hz;have Hb1:=Lh hb1;clear hz hb1;go_wp2_with fail;go_ret;exact ⟨aj Hz.out,Hb1.out⟩
theorem Er (x:Sx.Clause) (cs:List Value) (bx:Nat) (b:Bool) (w:World) (hbx:aC w bx 175 #[.func (.func 120) #[] #[]]) (hP:bH x cs)
  (H:∀ W,Below w.heap.size w W→bH x cs→Calls Tryz.prog 120 #[.agg cs.toArray] W (ak b W)) :
  Calls Tryz.prog 187 #[.agg cs.toArray,.pointer (some ⟨bx,0,none⟩)] w (ak (!b) w):=by
 have c0:=hbx.cell 0;have hlt:=hbx.lt;simp at c0;have hP':=hP;obtain ⟨i0,i1,i2,i3,rfl⟩:=uP hP;have hbw:Below w.heap.size w (w.alloc (.cells #[.int .i64 i0,.int .i64 i1,.int .i64 i2,.int .i64 i3] 90)):=(Below.refl _ _).alloc (Nat.le_refl _) _;have Hc:=Lh (H _ hbw (rD hbw hP'));have gy:=Lh hbw;clear H hbw hP hP' hbx;go_enter Tryz.func187,Tryz.ntmps187;go_wp2_with fail;refine Hc.out.mono ?_;rintro e w1 ⟨rfl,hb1⟩;have Hb1:=Lh (gy.out.trans (hb1.mono gy.out.size));clear hb1;go_wp2_with fail;go_ret;exact ⟨aj rfl,Hb1.out⟩
theorem Es (A:Option Addr) (c:Nat) (l:List Sx.Clause) (b:Sx.Clause→Bool) (w:World) (hl:Row w (Old w) A 4 (bH) l)
  (H:∀ x∈l,∀ cs W,Below w.heap.size w W→bH x cs→Calls Tryz.prog 120 #[.agg cs.toArray] W (ak (b x) W)) :
  Calls Tryz.prog 129 #[.slice A l.length c,.func (.func 120) #[] #[]] w (ak (l.all b) w):=by
 have hbw:Below w.heap.size w (w.alloc (.cells #[.func (.func 120) #[] #[]] 175)):=(Below.refl _ _).alloc (Nat.le_refl _) _;have hbx:aC (w.alloc (.cells #[.func (.func 120) #[] #[]] 175)) w.heap.size 175 #[.func (.func 120) #[] #[]]:=aC.new _ _ _;have Hc:=Lh (Ep A c l w.heap.size b _ (hl.keep (P':=bH) (aG hbw) fun _ _ _ h=>rD hbw h) (fun x hx cs W hW hP=>Er x cs w.heap.size (b x) W (hbx.below hW hbx.lt) hP (fun W' hW' hP'=>H x hx cs W' (hbw.trans ((hW.mono hbw.size).trans (hW'.mono (Nat.le_trans hbw.size hW.size)))) hP')))
 obtain ⟨m,hm⟩:∃ m,m=l.length:=⟨_,rfl⟩
 obtain ⟨R,hR⟩:∃ R,R=l.all b:=⟨_,rfl⟩
 rw[←hR,←hm] at Hc;rw[←hR,←hm];have gy:=Lh hbw;clear H hbw hbx hl hm hR;go_enter Tryz.func129,Tryz.ntmps129;go_wp2_with fail;refine Hc.out.mono ?_;rintro e w1 ⟨rfl,hb1⟩;have Hb1:=Lh (gy.out.trans (hb1.mono gy.out.size));clear hb1;go_wp2_with fail;go_ret;exact ⟨aj (by simp),Hb1.out⟩
theorem sM {w:World} {S:Nat→Prop} {x:Sx.iK} {cs:List Value} (h:bW w S x cs):∃ (s0:ByteArray) (i1:Int) (i2:Int) (b3:Bool) (A4:Option Addr) (n4 c4:Nat) (A5:Option Addr) (n5 c5:Nat),cs = [.string s0,.int .i64 i1,.int .i64 i2,.bool b3,.slice A4 n4 c4,.slice A5 n5 c5]:=by
 obtain ⟨A,c,B,d,rfl,_⟩:=h;exact ⟨_,_,_,_,_,_,_,_,_,_,rfl⟩
theorem jF {w w':World} {x:Sx.iK} {cs:List Value} (hb:Below w.heap.size w w') (h:bW w (Old w) x cs):bW w' (Old w') x cs:=bW.keep (aG hb) h
theorem Nb (A:Option Addr) (c:Nat) (l:List Sx.iK) (bx:Nat) (b:Sx.iK→Bool) (w:World) (hl:Row w (Old w) A 6 (bW w (Old w)) l)
  (HC:∀ x∈l,∀ cs W,Below w.heap.size w W→bW W (Old W) x cs→Calls Tryz.prog 208 #[.agg cs.toArray,.pointer (some ⟨bx,0,none⟩)] W (ak (!b x) W)) :
  Calls Tryz.prog 223 #[.slice A l.length c,.func (.func 208) #[] #[.pointer (some ⟨bx,0,none⟩)]] w (lW (!l.all b) w):=by
 obtain ⟨m,hm⟩:∃ m,m=l.length:=⟨_,rfl⟩
 obtain ⟨R,hR⟩:∃ R,R = !l.all b:=⟨_,rfl⟩
 have z0:=hl.len;rw[←hm] at z0 ⊢;rw[←hR];have Hl:=Lh hl;have Hm:=Lh hm;have HR:=Lh hR;have vH:=Lh HC;clear hl hm hR HC;go_enter Tryz.func223,Tryz.ntmps223;go_wp2_with fail
 go_loopg [8] m (fun gk v8 wr=>∃ i:Nat,v8 = .int .i64 i∧i+gk=m∧Hid (Below w.heap.size w wr)∧Hid (∀ j x,j < i→l[j]?=some x→b x=true))
 case atStart=>exact ⟨0,rfl,by omega,Lh (Below.refl _ _),Lh (fun j x hj=>absurd hj (Nat.not_lt_zero j))⟩
 case round=>
  obtain ⟨i,rfl,hi,Hb,dQ⟩:=hrel;have hws:=Hb.out.size
  by_cases hlt:i < m
  ·obtain ⟨x,hx⟩:∃ x,l[i]?=some x:=⟨_,List.getElem?_eq_getElem (by have:=Hm.out;omega)⟩
   have Hx:=Lh hx;obtain ⟨bk,ok,cs,rfl,hS,hP,hck⟩:=Hl.out.at_ i x hx;have hcall:=vH.out x (List.mem_of_getElem? hx) cs;have hP':=jF Hb.out hP;obtain ⟨s0,i1,i2,b3,A4,n4,c4,A5,n5,c5,rfl⟩:=sM hP;have k0:=(Hb.out.cell (p:=⟨bk,_,none⟩) hS).trans (hck 0 _ rfl);have k1:=(Hb.out.cell (p:=⟨bk,_,none⟩) hS).trans (hck 1 _ rfl);have k2:=(Hb.out.cell (p:=⟨bk,_,none⟩) hS).trans (hck 2 _ rfl);have k3:=(Hb.out.cell (p:=⟨bk,_,none⟩) hS).trans (hck 3 _ rfl);have k4:=(Hb.out.cell (p:=⟨bk,_,none⟩) hS).trans (hck 4 _ rfl);have k5:=(Hb.out.cell (p:=⟨bk,_,none⟩) hS).trans (hck 5 _ rfl)
   simp only[Nat.add_zero] at k0 k1 k2 k3 k4 k5;have aH:=Lh (hcall wr Hb.out hP');clear hcall hP hP' hck hx;cases hq:b x with
   | false=>
    rw[hq] at aH;have HR2:Hid (R=true):=Lh (by rw [HR.out,jf Hx.out hq];rfl);clear hq;go_wp2_with fail;refine aH.out.mono ?_;rintro e w5 ⟨rfl,hb5⟩;have Hb5:=Lh hb5;clear hb5;go_wp2_with fail;go_ret;exact ⟨i,bU rfl,by rw [HR2.out];simp,Hb.out.trans (Hb5.out.mono hws)⟩
   | true=>
    rw[hq] at aH;have Hq:=Lh hq;clear hq;go_wp2_with fail;refine aH.out.mono ?_;rintro e w5 ⟨rfl,hb5⟩;have Hb5:=Lh hb5;clear hb5;go_wp2_with fail
    go_roundg (gk - 1)
    all_goals first
     | omega
     | exact ⟨i+1,by go_num,by omega,Lh (Hb.out.trans (Hb5.out.mono hws)),Lh (fun j y hj h1=>by
       rcases Nat.lt_or_ge j i with h3 | h3
       ·exact dQ.out j y h3 h1
       ·obtain rfl:j=i:=by omega
        rw[Hx.out] at h1;injection h1 with h1;rw[←h1];exact Hq.out)⟩
  ·obtain rfl:i=m:=by omega
   have HR2:Hid (R=false):=Lh (by rw [HR.out,fA fun j x hj h=>dQ.out j x (by have:=Hm.out;omega) h];rfl);go_wp2_with fail;go_ret;exact ⟨-1,bU rfl,by rw [HR2.out];rfl,Hb.out⟩
theorem Nc (A:Option Addr) (c:Nat) (l:List Sx.iK) (bx:Nat) (b:Sx.iK→Bool) (w:World) (hl:Row w (Old w) A 6 (bW w (Old w)) l)
  (HC:∀ x∈l,∀ cs W,Below w.heap.size w W→bW W (Old W) x cs→Calls Tryz.prog 208 #[.agg cs.toArray,.pointer (some ⟨bx,0,none⟩)] W (ak (!b x) W)) :
  Calls Tryz.prog 207 #[.slice A l.length c,.func (.func 208) #[] #[.pointer (some ⟨bx,0,none⟩)]] w (ak (!l.all b) w):=by
 have Hc:=Lh (Nb A c l bx b w hl HC);obtain ⟨R,hR⟩:∃ R,R = !l.all b:=⟨_,rfl⟩
 obtain ⟨m,hm⟩:∃ m,m=l.length:=⟨_,rfl⟩
 rw[←hR,←hm] at Hc ⊢;clear hl HC hR hm;go_enter Tryz.func207,Tryz.ntmps207;go_wp2_with fail;refine Hc.out.mono ?_;rintro e w1 ⟨z,rfl,hz,hb1⟩;have Hz:=Lh hz;have Hb1:=Lh hb1;clear hz hb1;go_wp2_with fail;go_ret;exact ⟨aj Hz.out,Hb1.out⟩
theorem Nf (x:Sx.iK) (cs:List Value) (bx:Nat) (b:Bool) (w:World) (hbx:aC w bx 219 #[.func (.func 181) #[] #[]]) (hP:bW w (Old w) x cs)
  (H:∀ W,Below w.heap.size w W→bW W (Old W) x cs→Calls Tryz.prog 181 #[.agg cs.toArray] W (ak b W)) :
  Calls Tryz.prog 208 #[.agg cs.toArray,.pointer (some ⟨bx,0,none⟩)] w (ak (!b) w):=by
 have c0:=hbx.cell 0;have hlt:=hbx.lt;simp at c0;have hP':=hP;obtain ⟨s0,i1,i2,b3,A4,n4,c4,A5,n5,c5,rfl⟩:=sM hP;have hbw:Below w.heap.size w (w.alloc (.cells #[.string s0,.int .i64 i1,.int .i64 i2,.bool b3,.slice A4 n4 c4,.slice A5 n5 c5] 108)):=(Below.refl _ _).alloc (Nat.le_refl _) _;have Hc:=Lh (H _ hbw (jF hbw hP'));have gy:=Lh hbw;clear H hbw hP hP' hbx;go_enter Tryz.func208,Tryz.ntmps208;go_wp2_with fail;refine Hc.out.mono ?_;rintro e w1 ⟨rfl,hb1⟩;have Hb1:=Lh (gy.out.trans (hb1.mono gy.out.size));clear hb1;go_wp2_with fail;go_ret;exact ⟨aj rfl,Hb1.out⟩
theorem Ng (A:Option Addr) (c:Nat) (l:List Sx.iK) (b:Sx.iK→Bool) (w:World) (hl:Row w (Old w) A 6 (bW w (Old w)) l)
  (H:∀ x∈l,∀ cs W,Below w.heap.size w W→bW W (Old W) x cs→Calls Tryz.prog 181 #[.agg cs.toArray] W (ak (b x) W)) :
  Calls Tryz.prog 180 #[.slice A l.length c,.func (.func 181) #[] #[]] w (ak (l.all b) w):=by
 have hbw:Below w.heap.size w (w.alloc (.cells #[.func (.func 181) #[] #[]] 219)):=(Below.refl _ _).alloc (Nat.le_refl _) _;have hbx:aC (w.alloc (.cells #[.func (.func 181) #[] #[]] 219)) w.heap.size 219 #[.func (.func 181) #[] #[]]:=aC.new _ _ _
 have Hc:=Lh (Nc A c l w.heap.size b _ (hl.keep (P':=bW (w.alloc (.cells #[.func (.func 181) #[] #[]] 219)) (Old (w.alloc (.cells #[.func (.func 181) #[] #[]] 219)))) (aG hbw) fun _ _ _ h=>jF hbw h) (fun x hx cs W hW hP=>Nf x cs w.heap.size (b x) W (hbx.below hW hbx.lt) hP (fun W' hW' hP'=>H x hx cs W' (hbw.trans ((hW.mono hbw.size).trans (hW'.mono (Nat.le_trans hbw.size hW.size)))) hP')));obtain ⟨m,hm⟩:∃ m,m=l.length:=⟨_,rfl⟩
 obtain ⟨R,hR⟩:∃ R,R=l.all b:=⟨_,rfl⟩
 rw[←hR,←hm] at Hc;rw[←hR,←hm];have gy:=Lh hbw;clear H hbw hbx hl hm hR;go_enter Tryz.func180,Tryz.ntmps180;go_wp2_with fail;refine Hc.out.mono ?_;rintro e w1 ⟨rfl,hb1⟩;have Hb1:=Lh (gy.out.trans (hb1.mono gy.out.size));clear hb1;go_wp2_with fail;go_ret;exact ⟨aj (by simp),Hb1.out⟩
end Go.Proofs.YtjonaidancomgaaGreatDoor
