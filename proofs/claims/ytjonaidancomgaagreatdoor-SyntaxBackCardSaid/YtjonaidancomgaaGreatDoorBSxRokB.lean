/- Parts of the proof, joined into one text: SxRokB. -/
import Derived.Test.YtjonaidancomgaaGreatDoorBSxChain
import Derived.BigQuiet

namespace Go.Proofs.YtjonaidancomgaaGreatDoor
open Go.RowKit

set_option maxRecDepth 20000 in
set_option maxHeartbeats 8000000 in
theorem rok5 (z:Int) (hz:decide ((16:Int) < z)=false) (b:Sx.Rule→Bool) (co n d:Int) (nm:List UInt8) (ks:List Sx.Rule) (A:Option Addr) (m c:Nat) (_hm:m=ks.length) (hn:nm.length≤140737488351232) (w:World)
  (hall:∀ W,Below w.heap.size w W→Blk W (w.heap.size+1) 3 #[.int .i64 z]→Calls Tryz.prog 147 #[.slice A m c,.func (.func 148) #[] #[.pointer (some ⟨w.heap.size+1,0,none⟩)]] W (BoolPost (!ks.all b) W)) :
  Calls Tryz.prog 57 #[.agg #[.int .i64 5,.int .i64 co,.string (Lx.bs nm),.int .i64 n,.int .i64 d,.slice A m c],.int .i64 z] w (BoolPost (!decide ((200:Int) < (m:Int)) && Sx.refOk nm co && Sx.inB n 0 12 && !decide (0 < m) && !(d != 0) && ks.all b) w):=by
 obtain ⟨R,hR⟩:∃ R:Bool,R=(!decide ((200:Int) < (m:Int)) && Sx.refOk nm co && Sx.inB n 0 12 && !decide (0 < m) && !(d != 0) && ks.all b):=⟨_,rfl⟩
 rw[←hR]
 have Hall:=Lh hall
 obtain ⟨W,hW⟩:∃ W,W=((w.alloc (.cells #[.int .i64 5,.int .i64 co,.string (Lx.bs nm),.int .i64 n,.int .i64 d,.slice A m c] 38)).alloc (.cells #[.int .i64 z] 3)).alloc (.cells #[.int .i64 0,.int .i64 co,.string (Lx.bs nm),.int .i64 n,.int .i64 d,.slice none 0 0] 38):=⟨_,rfl⟩
 have hbW:Below w.heap.size w W:=by
  rw[hW]
  exact ((Below.refl _ _).alloc (Nat.le_refl _) _).alloc (by simp) _ |>.alloc (by simp;omega) _
 have e0:Blk W w.heap.size 38 #[.int .i64 5,.int .i64 co,.string (Lx.bs nm),.int .i64 n,.int .i64 d,.slice A m c]:=by rw [hW];exact ((Blk.new w _ _).alloc _).alloc _
 have e1:Blk W (w.heap.size+1) 3 #[.int .i64 z]:=by rw [hW];exact (Blk.new_at _ _ (by simp)).alloc _
 have e2:Blk W (w.heap.size+1+1) 38 #[.int .i64 0,.int .i64 co,.string (Lx.bs nm),.int .i64 n,.int .i64 d,.slice none 0 0]:=by rw [hW];exact Blk.new_at _ _ (by simp)
 have hw0:Below w.heap.size w ((w.alloc (.cells #[.int .i64 5,.int .i64 co,.string (Lx.bs nm),.int .i64 n,.int .i64 d,.slice A m c] 38)).alloc (.cells #[.int .i64 z] 3)):=((Below.refl _ _).alloc (Nat.le_refl _) _).alloc (by simp) _
 have HB0:=Lh hbW;have E0:=Lh e0;have F0:=Lh e1;have G0:=Lh e2;have HW0:=Lh hw0
 have hbs:((Lx.bs nm).toList == (⟨#[]⟩:ByteArray).toList)=nm.isEmpty:=by rw [ByteArray.toList_eq,ByteArray.toList_eq,Lx.bs_list];cases nm <;> rfl
 have hbs2:(Lx.bs nm).toList.isEmpty=nm.isEmpty:=by rw [ByteArray.toList_eq,Lx.bs_list]
 clear hall hbW e0 e1 e2 hw0 _hm
 have K1:=Lh (fun (W:World) (_:Below w.heap.size w W)=>sRefOk nm co W hn)
 have K2:=Lh (fun (W:World) (_:Below w.heap.size w W)=>sIn n 0 12 W)
 cases q0:decide ((200:Int) < (m:Int)) with
 | true=>
  rw[q0] at hR
  have HR:Hid (R=false):=Lh (by rw [hR];simp)
  clear hR
  go_enter Tryz.func57,Tryz.ntmps57
  go_wp2_with fail
  go_ret
  exact ⟨ret_bool HR.out.symm,HW0.out⟩
 | false=>
 rw[q0] at hR
 cases q1:Sx.refOk nm co with
 | false=>
  rw[q1] at K1 hR
  have HR:Hid (R=false):=Lh (by rw [hR];simp)
  clear hR
  go_enter Tryz.func57,Tryz.ntmps57
  go_wp2_with fail
  rw[←hW]
  refine (K1.out _ HB0.out).mono ?_
  rintro e w1 ⟨rfl,hb⟩
  have HB1:=Lh (HB0.out.trans (hb.mono HB0.out.size))
  have y:=E0.out.below hb E0.out.lt;have yl:=F0.out.below hb F0.out.lt;have yr:=G0.out.below hb G0.out.lt
  have E1:=Lh y;have F1:=Lh yl;have G1:=Lh yr
  obtain ⟨x0,x1,x2,x3,x4,x5,_⟩:=cells6 y
  obtain ⟨r0,r1,r2,r3,r4,r5,z1⟩:=cells6 yr
  obtain ⟨rf0,rf1,rf2,rf3,rf4,rf5⟩:=frees6 yr
  have v0:=yl.cell 0
  simp at v0
  clear hb y yl yr
  go_wp2_with fail
  go_ret
  exact ⟨ret_bool HR.out.symm,(Below.setCell (Below.setCell (Below.setCell HB1.out (by simp <;> omega) _) (by simp <;> omega) _) (by simp <;> omega) _)⟩
 | true=>
 rw[q1] at K1 hR
 cases q2:Sx.inB n 0 12 with
 | false=>
  rw[q2] at K2 hR
  have HR:Hid (R=false):=Lh (by rw [hR];simp)
  clear hR
  go_enter Tryz.func57,Tryz.ntmps57
  go_wp2_with fail
  rw[←hW]
  refine (K1.out _ HB0.out).mono ?_
  rintro e w1 ⟨rfl,hb⟩
  have HB1:=Lh (HB0.out.trans (hb.mono HB0.out.size))
  have y:=E0.out.below hb E0.out.lt;have yl:=F0.out.below hb F0.out.lt;have yr:=G0.out.below hb G0.out.lt
  have E1:=Lh y;have F1:=Lh yl;have G1:=Lh yr
  obtain ⟨x0,x1,x2,x3,x4,x5,_⟩:=cells6 y
  obtain ⟨r0,r1,r2,r3,r4,r5,z1⟩:=cells6 yr
  obtain ⟨rf0,rf1,rf2,rf3,rf4,rf5⟩:=frees6 yr
  have v0:=yl.cell 0
  simp at v0
  clear hb y yl yr
  go_wp2_with fail
  refine (K2.out _ HB1.out).mono ?_
  rintro e w2 ⟨rfl,hb⟩
  have HB2:=Lh (HB1.out.trans (hb.mono HB1.out.size))
  have y:=E1.out.below hb E1.out.lt;have yl:=F1.out.below hb F1.out.lt;have yr:=G1.out.below hb G1.out.lt
  have E2:=Lh y;have F2:=Lh yl;have G2:=Lh yr
  obtain ⟨x0,x1,x2,x3,x4,x5,_⟩:=cells6 y
  obtain ⟨r0,r1,r2,r3,r4,r5,z2⟩:=cells6 yr
  obtain ⟨rf0,rf1,rf2,rf3,rf4,rf5⟩:=frees6 yr
  have v0:=yl.cell 0
  simp at v0
  clear hb y yl yr
  go_wp2_with fail
  go_ret
  exact ⟨ret_bool HR.out.symm,(Below.setCell (Below.setCell (Below.setCell HB2.out (by simp <;> omega) _) (by simp <;> omega) _) (by simp <;> omega) _)⟩
 | true=>
 rw[q2] at K2 hR
 cases q3:decide (0 < m) with
 | true=>
  rw[q3] at hR
  have HR:Hid (R=false):=Lh (by rw [hR];simp)
  clear hR
  go_enter Tryz.func57,Tryz.ntmps57
  go_wp2_with fail
  rw[←hW]
  refine (K1.out _ HB0.out).mono ?_
  rintro e w1 ⟨rfl,hb⟩
  have HB1:=Lh (HB0.out.trans (hb.mono HB0.out.size))
  have y:=E0.out.below hb E0.out.lt;have yl:=F0.out.below hb F0.out.lt;have yr:=G0.out.below hb G0.out.lt
  have E1:=Lh y;have F1:=Lh yl;have G1:=Lh yr
  obtain ⟨x0,x1,x2,x3,x4,x5,_⟩:=cells6 y
  obtain ⟨r0,r1,r2,r3,r4,r5,z1⟩:=cells6 yr
  obtain ⟨rf0,rf1,rf2,rf3,rf4,rf5⟩:=frees6 yr
  have v0:=yl.cell 0
  simp at v0
  clear hb y yl yr
  go_wp2_with fail
  refine (K2.out _ HB1.out).mono ?_
  rintro e w2 ⟨rfl,hb⟩
  have HB2:=Lh (HB1.out.trans (hb.mono HB1.out.size))
  have y:=E1.out.below hb E1.out.lt;have yl:=F1.out.below hb F1.out.lt;have yr:=G1.out.below hb G1.out.lt
  have E2:=Lh y;have F2:=Lh yl;have G2:=Lh yr
  obtain ⟨x0,x1,x2,x3,x4,x5,_⟩:=cells6 y
  obtain ⟨r0,r1,r2,r3,r4,r5,z2⟩:=cells6 yr
  obtain ⟨rf0,rf1,rf2,rf3,rf4,rf5⟩:=frees6 yr
  have v0:=yl.cell 0
  simp at v0
  clear hb y yl yr
  go_wp2_with fail
  go_ret
  exact ⟨ret_bool HR.out.symm,(Below.setCell (Below.setCell (Below.setCell HB2.out (by simp <;> omega) _) (by simp <;> omega) _) (by simp <;> omega) _)⟩
 | false=>
 rw[q3] at hR
 cases q4:(d != 0) with
 | true=>
  rw[q4] at hR
  have HR:Hid (R=false):=Lh (by rw [hR];simp)
  clear hR
  go_enter Tryz.func57,Tryz.ntmps57
  go_wp2_with fail
  rw[←hW]
  refine (K1.out _ HB0.out).mono ?_
  rintro e w1 ⟨rfl,hb⟩
  have HB1:=Lh (HB0.out.trans (hb.mono HB0.out.size))
  have y:=E0.out.below hb E0.out.lt;have yl:=F0.out.below hb F0.out.lt;have yr:=G0.out.below hb G0.out.lt
  have E1:=Lh y;have F1:=Lh yl;have G1:=Lh yr
  obtain ⟨x0,x1,x2,x3,x4,x5,_⟩:=cells6 y
  obtain ⟨r0,r1,r2,r3,r4,r5,z1⟩:=cells6 yr
  obtain ⟨rf0,rf1,rf2,rf3,rf4,rf5⟩:=frees6 yr
  have v0:=yl.cell 0
  simp at v0
  clear hb y yl yr
  go_wp2_with fail
  refine (K2.out _ HB1.out).mono ?_
  rintro e w2 ⟨rfl,hb⟩
  have HB2:=Lh (HB1.out.trans (hb.mono HB1.out.size))
  have y:=E1.out.below hb E1.out.lt;have yl:=F1.out.below hb F1.out.lt;have yr:=G1.out.below hb G1.out.lt
  have E2:=Lh y;have F2:=Lh yl;have G2:=Lh yr
  obtain ⟨x0,x1,x2,x3,x4,x5,_⟩:=cells6 y
  obtain ⟨r0,r1,r2,r3,r4,r5,z2⟩:=cells6 yr
  obtain ⟨rf0,rf1,rf2,rf3,rf4,rf5⟩:=frees6 yr
  have v0:=yl.cell 0
  simp at v0
  clear hb y yl yr
  go_wp2_with fail
  go_ret
  exact ⟨ret_bool HR.out.symm,(Below.setCell (Below.setCell (Below.setCell HB2.out (by simp <;> omega) _) (by simp <;> omega) _) (by simp <;> omega) _)⟩
 | false=>
 rw[q4] at hR
 have HR:Hid (R=ks.all b):=Lh (by rw [hR];simp)
 clear hR
 go_enter Tryz.func57,Tryz.ntmps57
 go_wp2_with fail
 rw[←hW]
 refine (K1.out _ HB0.out).mono ?_
 rintro e w1 ⟨rfl,hb⟩
 have HB1:=Lh (HB0.out.trans (hb.mono HB0.out.size))
 have y:=E0.out.below hb E0.out.lt;have yl:=F0.out.below hb F0.out.lt;have yr:=G0.out.below hb G0.out.lt
 have E1:=Lh y;have F1:=Lh yl;have G1:=Lh yr
 obtain ⟨x0,x1,x2,x3,x4,x5,_⟩:=cells6 y
 obtain ⟨r0,r1,r2,r3,r4,r5,z1⟩:=cells6 yr
 obtain ⟨rf0,rf1,rf2,rf3,rf4,rf5⟩:=frees6 yr
 have v0:=yl.cell 0
 simp at v0
 clear hb y yl yr
 go_wp2_with fail
 refine (K2.out _ HB1.out).mono ?_
 rintro e w2 ⟨rfl,hb⟩
 have HB2:=Lh (HB1.out.trans (hb.mono HB1.out.size))
 have y:=E1.out.below hb E1.out.lt;have yl:=F1.out.below hb F1.out.lt;have yr:=G1.out.below hb G1.out.lt
 have E2:=Lh y;have F2:=Lh yl;have G2:=Lh yr
 obtain ⟨x0,x1,x2,x3,x4,x5,_⟩:=cells6 y
 obtain ⟨r0,r1,r2,r3,r4,r5,z2⟩:=cells6 yr
 obtain ⟨rf0,rf1,rf2,rf3,rf4,rf5⟩:=frees6 yr
 have v0:=yl.cell 0
 simp at v0
 clear hb y yl yr
 go_wp2_with fail
 refine (Hall.out _ (Below.setCell (Below.setCell (Below.setCell HB2.out (by simp <;> omega) _) (by simp <;> omega) _) (by simp <;> omega) _) (Blk.far (Blk.far (Blk.far F2.out (by simp <;> omega) _) (by simp <;> omega) _) (by simp <;> omega) _)).mono ?_
 rintro e w9 ⟨rfl,hb⟩
 have HB9:Hid (Below w.heap.size w w9):=Lh (Below.trans (Below.setCell (Below.setCell (Below.setCell HB2.out (by simp <;> omega) _) (by simp <;> omega) _) (by simp <;> omega) _) (hb.mono (Below.setCell (Below.setCell (Below.setCell HB2.out (by simp <;> omega) _) (by simp <;> omega) _) (by simp <;> omega) _).size))
 clear hb
 go_wp2_with fail
 go_ret
 exact ⟨ret_bool (by simp [HR.out]),HB9.out⟩
set_option maxRecDepth 20000 in
set_option maxHeartbeats 8000000 in
theorem rok6 (z:Int) (hz:decide ((16:Int) < z)=false) (b:Sx.Rule→Bool) (co n d:Int) (nm:List UInt8) (ks:List Sx.Rule) (A:Option Addr) (m c:Nat) (_hm:m=ks.length) (hn:nm.length≤140737488351232) (w:World)
  (hall:∀ W,Below w.heap.size w W→Blk W (w.heap.size+1) 3 #[.int .i64 z]→Calls Tryz.prog 147 #[.slice A m c,.func (.func 148) #[] #[.pointer (some ⟨w.heap.size+1,0,none⟩)]] W (BoolPost (!ks.all b) W)) :
  Calls Tryz.prog 57 #[.agg #[.int .i64 6,.int .i64 co,.string (Lx.bs nm),.int .i64 n,.int .i64 d,.slice A m c],.int .i64 z] w (BoolPost (!decide ((200:Int) < (m:Int)) && Sx.refOk nm co && Sx.inB n 1 100 && !decide (0 < m) && !(d != 0) && ks.all b) w):=by
 obtain ⟨R,hR⟩:∃ R:Bool,R=(!decide ((200:Int) < (m:Int)) && Sx.refOk nm co && Sx.inB n 1 100 && !decide (0 < m) && !(d != 0) && ks.all b):=⟨_,rfl⟩
 rw[←hR]
 have Hall:=Lh hall
 obtain ⟨W,hW⟩:∃ W,W=((w.alloc (.cells #[.int .i64 6,.int .i64 co,.string (Lx.bs nm),.int .i64 n,.int .i64 d,.slice A m c] 38)).alloc (.cells #[.int .i64 z] 3)).alloc (.cells #[.int .i64 0,.int .i64 co,.string (Lx.bs nm),.int .i64 n,.int .i64 d,.slice none 0 0] 38):=⟨_,rfl⟩
 have hbW:Below w.heap.size w W:=by
  rw[hW]
  exact ((Below.refl _ _).alloc (Nat.le_refl _) _).alloc (by simp) _ |>.alloc (by simp;omega) _
 have e0:Blk W w.heap.size 38 #[.int .i64 6,.int .i64 co,.string (Lx.bs nm),.int .i64 n,.int .i64 d,.slice A m c]:=by rw [hW];exact ((Blk.new w _ _).alloc _).alloc _
 have e1:Blk W (w.heap.size+1) 3 #[.int .i64 z]:=by rw [hW];exact (Blk.new_at _ _ (by simp)).alloc _
 have e2:Blk W (w.heap.size+1+1) 38 #[.int .i64 0,.int .i64 co,.string (Lx.bs nm),.int .i64 n,.int .i64 d,.slice none 0 0]:=by rw [hW];exact Blk.new_at _ _ (by simp)
 have hw0:Below w.heap.size w ((w.alloc (.cells #[.int .i64 6,.int .i64 co,.string (Lx.bs nm),.int .i64 n,.int .i64 d,.slice A m c] 38)).alloc (.cells #[.int .i64 z] 3)):=((Below.refl _ _).alloc (Nat.le_refl _) _).alloc (by simp) _
 have HB0:=Lh hbW;have E0:=Lh e0;have F0:=Lh e1;have G0:=Lh e2;have HW0:=Lh hw0
 have hbs:((Lx.bs nm).toList == (⟨#[]⟩:ByteArray).toList)=nm.isEmpty:=by rw [ByteArray.toList_eq,ByteArray.toList_eq,Lx.bs_list];cases nm <;> rfl
 have hbs2:(Lx.bs nm).toList.isEmpty=nm.isEmpty:=by rw [ByteArray.toList_eq,Lx.bs_list]
 clear hall hbW e0 e1 e2 hw0 _hm
 have K1:=Lh (fun (W:World) (_:Below w.heap.size w W)=>sRefOk nm co W hn)
 have K2:=Lh (fun (W:World) (_:Below w.heap.size w W)=>sIn n 1 100 W)
 cases q0:decide ((200:Int) < (m:Int)) with
 | true=>
  rw[q0] at hR
  have HR:Hid (R=false):=Lh (by rw [hR];simp)
  clear hR
  go_enter Tryz.func57,Tryz.ntmps57
  go_wp2_with fail
  go_ret
  exact ⟨ret_bool HR.out.symm,HW0.out⟩
 | false=>
 rw[q0] at hR
 cases q1:Sx.refOk nm co with
 | false=>
  rw[q1] at K1 hR
  have HR:Hid (R=false):=Lh (by rw [hR];simp)
  clear hR
  go_enter Tryz.func57,Tryz.ntmps57
  go_wp2_with fail
  rw[←hW]
  refine (K1.out _ HB0.out).mono ?_
  rintro e w1 ⟨rfl,hb⟩
  have HB1:=Lh (HB0.out.trans (hb.mono HB0.out.size))
  have y:=E0.out.below hb E0.out.lt;have yl:=F0.out.below hb F0.out.lt;have yr:=G0.out.below hb G0.out.lt
  have E1:=Lh y;have F1:=Lh yl;have G1:=Lh yr
  obtain ⟨x0,x1,x2,x3,x4,x5,_⟩:=cells6 y
  obtain ⟨r0,r1,r2,r3,r4,r5,z1⟩:=cells6 yr
  obtain ⟨rf0,rf1,rf2,rf3,rf4,rf5⟩:=frees6 yr
  have v0:=yl.cell 0
  simp at v0
  clear hb y yl yr
  go_wp2_with fail
  go_ret
  exact ⟨ret_bool HR.out.symm,(Below.setCell (Below.setCell (Below.setCell HB1.out (by simp <;> omega) _) (by simp <;> omega) _) (by simp <;> omega) _)⟩
 | true=>
 rw[q1] at K1 hR
 cases q2:Sx.inB n 1 100 with
 | false=>
  rw[q2] at K2 hR
  have HR:Hid (R=false):=Lh (by rw [hR];simp)
  clear hR
  go_enter Tryz.func57,Tryz.ntmps57
  go_wp2_with fail
  rw[←hW]
  refine (K1.out _ HB0.out).mono ?_
  rintro e w1 ⟨rfl,hb⟩
  have HB1:=Lh (HB0.out.trans (hb.mono HB0.out.size))
  have y:=E0.out.below hb E0.out.lt;have yl:=F0.out.below hb F0.out.lt;have yr:=G0.out.below hb G0.out.lt
  have E1:=Lh y;have F1:=Lh yl;have G1:=Lh yr
  obtain ⟨x0,x1,x2,x3,x4,x5,_⟩:=cells6 y
  obtain ⟨r0,r1,r2,r3,r4,r5,z1⟩:=cells6 yr
  obtain ⟨rf0,rf1,rf2,rf3,rf4,rf5⟩:=frees6 yr
  have v0:=yl.cell 0
  simp at v0
  clear hb y yl yr
  go_wp2_with fail
  refine (K2.out _ HB1.out).mono ?_
  rintro e w2 ⟨rfl,hb⟩
  have HB2:=Lh (HB1.out.trans (hb.mono HB1.out.size))
  have y:=E1.out.below hb E1.out.lt;have yl:=F1.out.below hb F1.out.lt;have yr:=G1.out.below hb G1.out.lt
  have E2:=Lh y;have F2:=Lh yl;have G2:=Lh yr
  obtain ⟨x0,x1,x2,x3,x4,x5,_⟩:=cells6 y
  obtain ⟨r0,r1,r2,r3,r4,r5,z2⟩:=cells6 yr
  obtain ⟨rf0,rf1,rf2,rf3,rf4,rf5⟩:=frees6 yr
  have v0:=yl.cell 0
  simp at v0
  clear hb y yl yr
  go_wp2_with fail
  go_ret
  exact ⟨ret_bool HR.out.symm,(Below.setCell (Below.setCell (Below.setCell HB2.out (by simp <;> omega) _) (by simp <;> omega) _) (by simp <;> omega) _)⟩
 | true=>
 rw[q2] at K2 hR
 cases q3:decide (0 < m) with
 | true=>
  rw[q3] at hR
  have HR:Hid (R=false):=Lh (by rw [hR];simp)
  clear hR
  go_enter Tryz.func57,Tryz.ntmps57
  go_wp2_with fail
  rw[←hW]
  refine (K1.out _ HB0.out).mono ?_
  rintro e w1 ⟨rfl,hb⟩
  have HB1:=Lh (HB0.out.trans (hb.mono HB0.out.size))
  have y:=E0.out.below hb E0.out.lt;have yl:=F0.out.below hb F0.out.lt;have yr:=G0.out.below hb G0.out.lt
  have E1:=Lh y;have F1:=Lh yl;have G1:=Lh yr
  obtain ⟨x0,x1,x2,x3,x4,x5,_⟩:=cells6 y
  obtain ⟨r0,r1,r2,r3,r4,r5,z1⟩:=cells6 yr
  obtain ⟨rf0,rf1,rf2,rf3,rf4,rf5⟩:=frees6 yr
  have v0:=yl.cell 0
  simp at v0
  clear hb y yl yr
  go_wp2_with fail
  refine (K2.out _ HB1.out).mono ?_
  rintro e w2 ⟨rfl,hb⟩
  have HB2:=Lh (HB1.out.trans (hb.mono HB1.out.size))
  have y:=E1.out.below hb E1.out.lt;have yl:=F1.out.below hb F1.out.lt;have yr:=G1.out.below hb G1.out.lt
  have E2:=Lh y;have F2:=Lh yl;have G2:=Lh yr
  obtain ⟨x0,x1,x2,x3,x4,x5,_⟩:=cells6 y
  obtain ⟨r0,r1,r2,r3,r4,r5,z2⟩:=cells6 yr
  obtain ⟨rf0,rf1,rf2,rf3,rf4,rf5⟩:=frees6 yr
  have v0:=yl.cell 0
  simp at v0
  clear hb y yl yr
  go_wp2_with fail
  go_ret
  exact ⟨ret_bool HR.out.symm,(Below.setCell (Below.setCell (Below.setCell HB2.out (by simp <;> omega) _) (by simp <;> omega) _) (by simp <;> omega) _)⟩
 | false=>
 rw[q3] at hR
 cases q4:(d != 0) with
 | true=>
  rw[q4] at hR
  have HR:Hid (R=false):=Lh (by rw [hR];simp)
  clear hR
  go_enter Tryz.func57,Tryz.ntmps57
  go_wp2_with fail
  rw[←hW]
  refine (K1.out _ HB0.out).mono ?_
  rintro e w1 ⟨rfl,hb⟩
  have HB1:=Lh (HB0.out.trans (hb.mono HB0.out.size))
  have y:=E0.out.below hb E0.out.lt;have yl:=F0.out.below hb F0.out.lt;have yr:=G0.out.below hb G0.out.lt
  have E1:=Lh y;have F1:=Lh yl;have G1:=Lh yr
  obtain ⟨x0,x1,x2,x3,x4,x5,_⟩:=cells6 y
  obtain ⟨r0,r1,r2,r3,r4,r5,z1⟩:=cells6 yr
  obtain ⟨rf0,rf1,rf2,rf3,rf4,rf5⟩:=frees6 yr
  have v0:=yl.cell 0
  simp at v0
  clear hb y yl yr
  go_wp2_with fail
  refine (K2.out _ HB1.out).mono ?_
  rintro e w2 ⟨rfl,hb⟩
  have HB2:=Lh (HB1.out.trans (hb.mono HB1.out.size))
  have y:=E1.out.below hb E1.out.lt;have yl:=F1.out.below hb F1.out.lt;have yr:=G1.out.below hb G1.out.lt
  have E2:=Lh y;have F2:=Lh yl;have G2:=Lh yr
  obtain ⟨x0,x1,x2,x3,x4,x5,_⟩:=cells6 y
  obtain ⟨r0,r1,r2,r3,r4,r5,z2⟩:=cells6 yr
  obtain ⟨rf0,rf1,rf2,rf3,rf4,rf5⟩:=frees6 yr
  have v0:=yl.cell 0
  simp at v0
  clear hb y yl yr
  go_wp2_with fail
  go_ret
  exact ⟨ret_bool HR.out.symm,(Below.setCell (Below.setCell (Below.setCell HB2.out (by simp <;> omega) _) (by simp <;> omega) _) (by simp <;> omega) _)⟩
 | false=>
 rw[q4] at hR
 have HR:Hid (R=ks.all b):=Lh (by rw [hR];simp)
 clear hR
 go_enter Tryz.func57,Tryz.ntmps57
 go_wp2_with fail
 rw[←hW]
 refine (K1.out _ HB0.out).mono ?_
 rintro e w1 ⟨rfl,hb⟩
 have HB1:=Lh (HB0.out.trans (hb.mono HB0.out.size))
 have y:=E0.out.below hb E0.out.lt;have yl:=F0.out.below hb F0.out.lt;have yr:=G0.out.below hb G0.out.lt
 have E1:=Lh y;have F1:=Lh yl;have G1:=Lh yr
 obtain ⟨x0,x1,x2,x3,x4,x5,_⟩:=cells6 y
 obtain ⟨r0,r1,r2,r3,r4,r5,z1⟩:=cells6 yr
 obtain ⟨rf0,rf1,rf2,rf3,rf4,rf5⟩:=frees6 yr
 have v0:=yl.cell 0
 simp at v0
 clear hb y yl yr
 go_wp2_with fail
 refine (K2.out _ HB1.out).mono ?_
 rintro e w2 ⟨rfl,hb⟩
 have HB2:=Lh (HB1.out.trans (hb.mono HB1.out.size))
 have y:=E1.out.below hb E1.out.lt;have yl:=F1.out.below hb F1.out.lt;have yr:=G1.out.below hb G1.out.lt
 have E2:=Lh y;have F2:=Lh yl;have G2:=Lh yr
 obtain ⟨x0,x1,x2,x3,x4,x5,_⟩:=cells6 y
 obtain ⟨r0,r1,r2,r3,r4,r5,z2⟩:=cells6 yr
 obtain ⟨rf0,rf1,rf2,rf3,rf4,rf5⟩:=frees6 yr
 have v0:=yl.cell 0
 simp at v0
 clear hb y yl yr
 go_wp2_with fail
 refine (Hall.out _ (Below.setCell (Below.setCell (Below.setCell HB2.out (by simp <;> omega) _) (by simp <;> omega) _) (by simp <;> omega) _) (Blk.far (Blk.far (Blk.far F2.out (by simp <;> omega) _) (by simp <;> omega) _) (by simp <;> omega) _)).mono ?_
 rintro e w9 ⟨rfl,hb⟩
 have HB9:Hid (Below w.heap.size w w9):=Lh (Below.trans (Below.setCell (Below.setCell (Below.setCell HB2.out (by simp <;> omega) _) (by simp <;> omega) _) (by simp <;> omega) _) (hb.mono (Below.setCell (Below.setCell (Below.setCell HB2.out (by simp <;> omega) _) (by simp <;> omega) _) (by simp <;> omega) _).size))
 clear hb
 go_wp2_with fail
 go_ret
 exact ⟨ret_bool (by simp [HR.out]),HB9.out⟩
set_option maxRecDepth 20000 in
set_option maxHeartbeats 8000000 in
theorem rok7 (z:Int) (hz:decide ((16:Int) < z)=false) (b:Sx.Rule→Bool) (co n d:Int) (nm:List UInt8) (ks:List Sx.Rule) (A:Option Addr) (m c:Nat) (_hm:m=ks.length) (hn:nm.length≤140737488351232) (w:World)
  (hall:∀ W,Below w.heap.size w W→Blk W (w.heap.size+1) 3 #[.int .i64 z]→Calls Tryz.prog 147 #[.slice A m c,.func (.func 148) #[] #[.pointer (some ⟨w.heap.size+1,0,none⟩)]] W (BoolPost (!ks.all b) W)) :
  Calls Tryz.prog 57 #[.agg #[.int .i64 7,.int .i64 co,.string (Lx.bs nm),.int .i64 n,.int .i64 d,.slice A m c],.int .i64 z] w (BoolPost (!decide ((200:Int) < (m:Int)) && Sx.inB n 0 10000 && !decide (0 < m) && nm.isEmpty && !(co != 0) && !(d != 0) && ks.all b) w):=by
 obtain ⟨R,hR⟩:∃ R:Bool,R=(!decide ((200:Int) < (m:Int)) && Sx.inB n 0 10000 && !decide (0 < m) && nm.isEmpty && !(co != 0) && !(d != 0) && ks.all b):=⟨_,rfl⟩
 rw[←hR]
 have Hall:=Lh hall
 obtain ⟨W,hW⟩:∃ W,W=((w.alloc (.cells #[.int .i64 7,.int .i64 co,.string (Lx.bs nm),.int .i64 n,.int .i64 d,.slice A m c] 38)).alloc (.cells #[.int .i64 z] 3)).alloc (.cells #[.int .i64 0,.int .i64 co,.string (Lx.bs nm),.int .i64 n,.int .i64 d,.slice none 0 0] 38):=⟨_,rfl⟩
 have hbW:Below w.heap.size w W:=by
  rw[hW]
  exact ((Below.refl _ _).alloc (Nat.le_refl _) _).alloc (by simp) _ |>.alloc (by simp;omega) _
 have e0:Blk W w.heap.size 38 #[.int .i64 7,.int .i64 co,.string (Lx.bs nm),.int .i64 n,.int .i64 d,.slice A m c]:=by rw [hW];exact ((Blk.new w _ _).alloc _).alloc _
 have e1:Blk W (w.heap.size+1) 3 #[.int .i64 z]:=by rw [hW];exact (Blk.new_at _ _ (by simp)).alloc _
 have e2:Blk W (w.heap.size+1+1) 38 #[.int .i64 0,.int .i64 co,.string (Lx.bs nm),.int .i64 n,.int .i64 d,.slice none 0 0]:=by rw [hW];exact Blk.new_at _ _ (by simp)
 have hw0:Below w.heap.size w ((w.alloc (.cells #[.int .i64 7,.int .i64 co,.string (Lx.bs nm),.int .i64 n,.int .i64 d,.slice A m c] 38)).alloc (.cells #[.int .i64 z] 3)):=((Below.refl _ _).alloc (Nat.le_refl _) _).alloc (by simp) _
 have HB0:=Lh hbW;have E0:=Lh e0;have F0:=Lh e1;have G0:=Lh e2;have HW0:=Lh hw0
 have hbs:((Lx.bs nm).toList == (⟨#[]⟩:ByteArray).toList)=nm.isEmpty:=by rw [ByteArray.toList_eq,ByteArray.toList_eq,Lx.bs_list];cases nm <;> rfl
 have hbs2:(Lx.bs nm).toList.isEmpty=nm.isEmpty:=by rw [ByteArray.toList_eq,Lx.bs_list]
 clear hall hbW e0 e1 e2 hw0 _hm
 have K1:=Lh (fun (W:World) (_:Below w.heap.size w W)=>sIn n 0 10000 W)
 cases q0:decide ((200:Int) < (m:Int)) with
 | true=>
  rw[q0] at hR
  have HR:Hid (R=false):=Lh (by rw [hR];simp)
  clear hR
  go_enter Tryz.func57,Tryz.ntmps57
  go_wp2_with fail
  go_ret
  exact ⟨ret_bool HR.out.symm,HW0.out⟩
 | false=>
 rw[q0] at hR
 cases q1:Sx.inB n 0 10000 with
 | false=>
  rw[q1] at K1 hR
  have HR:Hid (R=false):=Lh (by rw [hR];simp)
  clear hR
  go_enter Tryz.func57,Tryz.ntmps57
  go_wp2_with fail
  rw[←hW]
  refine (K1.out _ HB0.out).mono ?_
  rintro e w1 ⟨rfl,hb⟩
  have HB1:=Lh (HB0.out.trans (hb.mono HB0.out.size))
  have y:=E0.out.below hb E0.out.lt;have yl:=F0.out.below hb F0.out.lt;have yr:=G0.out.below hb G0.out.lt
  have E1:=Lh y;have F1:=Lh yl;have G1:=Lh yr
  obtain ⟨x0,x1,x2,x3,x4,x5,_⟩:=cells6 y
  obtain ⟨r0,r1,r2,r3,r4,r5,z1⟩:=cells6 yr
  obtain ⟨rf0,rf1,rf2,rf3,rf4,rf5⟩:=frees6 yr
  have v0:=yl.cell 0
  simp at v0
  clear hb y yl yr
  go_wp2_with fail
  go_ret
  exact ⟨ret_bool HR.out.symm,(Below.setCell HB1.out (by simp <;> omega) _)⟩
 | true=>
 rw[q1] at K1 hR
 cases q2:decide (0 < m) with
 | true=>
  rw[q2] at hR
  have HR:Hid (R=false):=Lh (by rw [hR];simp)
  clear hR
  go_enter Tryz.func57,Tryz.ntmps57
  go_wp2_with fail
  rw[←hW]
  refine (K1.out _ HB0.out).mono ?_
  rintro e w1 ⟨rfl,hb⟩
  have HB1:=Lh (HB0.out.trans (hb.mono HB0.out.size))
  have y:=E0.out.below hb E0.out.lt;have yl:=F0.out.below hb F0.out.lt;have yr:=G0.out.below hb G0.out.lt
  have E1:=Lh y;have F1:=Lh yl;have G1:=Lh yr
  obtain ⟨x0,x1,x2,x3,x4,x5,_⟩:=cells6 y
  obtain ⟨r0,r1,r2,r3,r4,r5,z1⟩:=cells6 yr
  obtain ⟨rf0,rf1,rf2,rf3,rf4,rf5⟩:=frees6 yr
  have v0:=yl.cell 0
  simp at v0
  clear hb y yl yr
  go_wp2_with fail
  go_ret
  exact ⟨ret_bool HR.out.symm,(Below.setCell HB1.out (by simp <;> omega) _)⟩
 | false=>
 rw[q2] at hR
 cases q3:nm.isEmpty with
 | false=>
  rw[q3] at hbs hbs2 hR
  have HR:Hid (R=false):=Lh (by rw [hR];simp)
  clear hR
  go_enter Tryz.func57,Tryz.ntmps57
  go_wp2_with fail
  rw[←hW]
  refine (K1.out _ HB0.out).mono ?_
  rintro e w1 ⟨rfl,hb⟩
  have HB1:=Lh (HB0.out.trans (hb.mono HB0.out.size))
  have y:=E0.out.below hb E0.out.lt;have yl:=F0.out.below hb F0.out.lt;have yr:=G0.out.below hb G0.out.lt
  have E1:=Lh y;have F1:=Lh yl;have G1:=Lh yr
  obtain ⟨x0,x1,x2,x3,x4,x5,_⟩:=cells6 y
  obtain ⟨r0,r1,r2,r3,r4,r5,z1⟩:=cells6 yr
  obtain ⟨rf0,rf1,rf2,rf3,rf4,rf5⟩:=frees6 yr
  have v0:=yl.cell 0
  simp at v0
  clear hb y yl yr
  go_wp2_with fail
  go_ret
  exact ⟨ret_bool HR.out.symm,(Below.setCell HB1.out (by simp <;> omega) _)⟩
 | true=>
 rw[q3] at hbs hbs2 hR
 cases q4:(co != 0) with
 | true=>
  rw[q4] at hR
  have HR:Hid (R=false):=Lh (by rw [hR];simp)
  clear hR
  go_enter Tryz.func57,Tryz.ntmps57
  go_wp2_with fail
  rw[←hW]
  refine (K1.out _ HB0.out).mono ?_
  rintro e w1 ⟨rfl,hb⟩
  have HB1:=Lh (HB0.out.trans (hb.mono HB0.out.size))
  have y:=E0.out.below hb E0.out.lt;have yl:=F0.out.below hb F0.out.lt;have yr:=G0.out.below hb G0.out.lt
  have E1:=Lh y;have F1:=Lh yl;have G1:=Lh yr
  obtain ⟨x0,x1,x2,x3,x4,x5,_⟩:=cells6 y
  obtain ⟨r0,r1,r2,r3,r4,r5,z1⟩:=cells6 yr
  obtain ⟨rf0,rf1,rf2,rf3,rf4,rf5⟩:=frees6 yr
  have v0:=yl.cell 0
  simp at v0
  clear hb y yl yr
  go_wp2_with fail
  go_ret
  exact ⟨ret_bool HR.out.symm,(Below.setCell HB1.out (by simp <;> omega) _)⟩
 | false=>
 rw[q4] at hR
 cases q5:(d != 0) with
 | true=>
  rw[q5] at hR
  have HR:Hid (R=false):=Lh (by rw [hR];simp)
  clear hR
  go_enter Tryz.func57,Tryz.ntmps57
  go_wp2_with fail
  rw[←hW]
  refine (K1.out _ HB0.out).mono ?_
  rintro e w1 ⟨rfl,hb⟩
  have HB1:=Lh (HB0.out.trans (hb.mono HB0.out.size))
  have y:=E0.out.below hb E0.out.lt;have yl:=F0.out.below hb F0.out.lt;have yr:=G0.out.below hb G0.out.lt
  have E1:=Lh y;have F1:=Lh yl;have G1:=Lh yr
  obtain ⟨x0,x1,x2,x3,x4,x5,_⟩:=cells6 y
  obtain ⟨r0,r1,r2,r3,r4,r5,z1⟩:=cells6 yr
  obtain ⟨rf0,rf1,rf2,rf3,rf4,rf5⟩:=frees6 yr
  have v0:=yl.cell 0
  simp at v0
  clear hb y yl yr
  go_wp2_with fail
  go_ret
  exact ⟨ret_bool HR.out.symm,(Below.setCell HB1.out (by simp <;> omega) _)⟩
 | false=>
 rw[q5] at hR
 have HR:Hid (R=ks.all b):=Lh (by rw [hR];simp)
 clear hR
 go_enter Tryz.func57,Tryz.ntmps57
 go_wp2_with fail
 rw[←hW]
 refine (K1.out _ HB0.out).mono ?_
 rintro e w1 ⟨rfl,hb⟩
 have HB1:=Lh (HB0.out.trans (hb.mono HB0.out.size))
 have y:=E0.out.below hb E0.out.lt;have yl:=F0.out.below hb F0.out.lt;have yr:=G0.out.below hb G0.out.lt
 have E1:=Lh y;have F1:=Lh yl;have G1:=Lh yr
 obtain ⟨x0,x1,x2,x3,x4,x5,_⟩:=cells6 y
 obtain ⟨r0,r1,r2,r3,r4,r5,z1⟩:=cells6 yr
 obtain ⟨rf0,rf1,rf2,rf3,rf4,rf5⟩:=frees6 yr
 have v0:=yl.cell 0
 simp at v0
 clear hb y yl yr
 go_wp2_with fail
 refine (Hall.out _ (Below.setCell HB1.out (by simp <;> omega) _) (Blk.far F1.out (by simp <;> omega) _)).mono ?_
 rintro e w9 ⟨rfl,hb⟩
 have HB9:Hid (Below w.heap.size w w9):=Lh (Below.trans (Below.setCell HB1.out (by simp <;> omega) _) (hb.mono (Below.setCell HB1.out (by simp <;> omega) _).size))
 clear hb
 go_wp2_with fail
 go_ret
 exact ⟨ret_bool (by simp [HR.out]),HB9.out⟩
set_option maxRecDepth 20000 in
set_option maxHeartbeats 8000000 in
theorem rok8 (z:Int) (hz:decide ((16:Int) < z)=false) (b:Sx.Rule→Bool) (co n d:Int) (nm:List UInt8) (ks:List Sx.Rule) (A:Option Addr) (m c:Nat) (_hm:m=ks.length) (hn:nm.length≤140737488351232) (w:World)
  (hall:∀ W,Below w.heap.size w W→Blk W (w.heap.size+1) 3 #[.int .i64 z]→Calls Tryz.prog 147 #[.slice A m c,.func (.func 148) #[] #[.pointer (some ⟨w.heap.size+1,0,none⟩)]] W (BoolPost (!ks.all b) W)) :
  Calls Tryz.prog 57 #[.agg #[.int .i64 8,.int .i64 co,.string (Lx.bs nm),.int .i64 n,.int .i64 d,.slice A m c],.int .i64 z] w (BoolPost (!decide ((200:Int) < (m:Int)) && Sx.Ratio.fine ⟨n,d⟩ && !decide (0 < m) && nm.isEmpty && !(co != 0) && ks.all b) w):=by
 obtain ⟨R,hR⟩:∃ R:Bool,R=(!decide ((200:Int) < (m:Int)) && Sx.Ratio.fine ⟨n,d⟩ && !decide (0 < m) && nm.isEmpty && !(co != 0) && ks.all b):=⟨_,rfl⟩
 rw[←hR]
 have Hall:=Lh hall
 obtain ⟨W,hW⟩:∃ W,W=((w.alloc (.cells #[.int .i64 8,.int .i64 co,.string (Lx.bs nm),.int .i64 n,.int .i64 d,.slice A m c] 38)).alloc (.cells #[.int .i64 z] 3)).alloc (.cells #[.int .i64 0,.int .i64 co,.string (Lx.bs nm),.int .i64 n,.int .i64 d,.slice none 0 0] 38):=⟨_,rfl⟩
 have hbW:Below w.heap.size w W:=by
  rw[hW]
  exact ((Below.refl _ _).alloc (Nat.le_refl _) _).alloc (by simp) _ |>.alloc (by simp;omega) _
 have e0:Blk W w.heap.size 38 #[.int .i64 8,.int .i64 co,.string (Lx.bs nm),.int .i64 n,.int .i64 d,.slice A m c]:=by rw [hW];exact ((Blk.new w _ _).alloc _).alloc _
 have e1:Blk W (w.heap.size+1) 3 #[.int .i64 z]:=by rw [hW];exact (Blk.new_at _ _ (by simp)).alloc _
 have e2:Blk W (w.heap.size+1+1) 38 #[.int .i64 0,.int .i64 co,.string (Lx.bs nm),.int .i64 n,.int .i64 d,.slice none 0 0]:=by rw [hW];exact Blk.new_at _ _ (by simp)
 have hw0:Below w.heap.size w ((w.alloc (.cells #[.int .i64 8,.int .i64 co,.string (Lx.bs nm),.int .i64 n,.int .i64 d,.slice A m c] 38)).alloc (.cells #[.int .i64 z] 3)):=((Below.refl _ _).alloc (Nat.le_refl _) _).alloc (by simp) _
 have HB0:=Lh hbW;have E0:=Lh e0;have F0:=Lh e1;have G0:=Lh e2;have HW0:=Lh hw0
 have hbs:((Lx.bs nm).toList == (⟨#[]⟩:ByteArray).toList)=nm.isEmpty:=by rw [ByteArray.toList_eq,ByteArray.toList_eq,Lx.bs_list];cases nm <;> rfl
 have hbs2:(Lx.bs nm).toList.isEmpty=nm.isEmpty:=by rw [ByteArray.toList_eq,Lx.bs_list]
 clear hall hbW e0 e1 e2 hw0 _hm
 have K1:=Lh (fun (W:World) (_:Below w.heap.size w W)=>sFine n d W)
 cases q0:decide ((200:Int) < (m:Int)) with
 | true=>
  rw[q0] at hR
  have HR:Hid (R=false):=Lh (by rw [hR];simp)
  clear hR
  go_enter Tryz.func57,Tryz.ntmps57
  go_wp2_with fail
  go_ret
  exact ⟨ret_bool HR.out.symm,HW0.out⟩
 | false=>
 rw[q0] at hR
 cases q1:Sx.Ratio.fine ⟨n,d⟩ with
 | false=>
  rw[q1] at K1 hR
  have HR:Hid (R=false):=Lh (by rw [hR];simp)
  clear hR
  go_enter Tryz.func57,Tryz.ntmps57
  go_wp2_with fail
  rw[←hW]
  refine (K1.out _ HB0.out).mono ?_
  rintro e w1 ⟨rfl,hb⟩
  have HB1:=Lh (HB0.out.trans (hb.mono HB0.out.size))
  have y:=E0.out.below hb E0.out.lt;have yl:=F0.out.below hb F0.out.lt;have yr:=G0.out.below hb G0.out.lt
  have E1:=Lh y;have F1:=Lh yl;have G1:=Lh yr
  obtain ⟨x0,x1,x2,x3,x4,x5,_⟩:=cells6 y
  obtain ⟨r0,r1,r2,r3,r4,r5,z1⟩:=cells6 yr
  obtain ⟨rf0,rf1,rf2,rf3,rf4,rf5⟩:=frees6 yr
  have v0:=yl.cell 0
  simp at v0
  clear hb y yl yr
  go_wp2_with fail
  go_ret
  exact ⟨ret_bool HR.out.symm,(Below.setCell (Below.setCell HB1.out (by simp <;> omega) _) (by simp <;> omega) _)⟩
 | true=>
 rw[q1] at K1 hR
 cases q2:decide (0 < m) with
 | true=>
  rw[q2] at hR
  have HR:Hid (R=false):=Lh (by rw [hR];simp)
  clear hR
  go_enter Tryz.func57,Tryz.ntmps57
  go_wp2_with fail
  rw[←hW]
  refine (K1.out _ HB0.out).mono ?_
  rintro e w1 ⟨rfl,hb⟩
  have HB1:=Lh (HB0.out.trans (hb.mono HB0.out.size))
  have y:=E0.out.below hb E0.out.lt;have yl:=F0.out.below hb F0.out.lt;have yr:=G0.out.below hb G0.out.lt
  have E1:=Lh y;have F1:=Lh yl;have G1:=Lh yr
  obtain ⟨x0,x1,x2,x3,x4,x5,_⟩:=cells6 y
  obtain ⟨r0,r1,r2,r3,r4,r5,z1⟩:=cells6 yr
  obtain ⟨rf0,rf1,rf2,rf3,rf4,rf5⟩:=frees6 yr
  have v0:=yl.cell 0
  simp at v0
  clear hb y yl yr
  go_wp2_with fail
  go_ret
  exact ⟨ret_bool HR.out.symm,(Below.setCell (Below.setCell HB1.out (by simp <;> omega) _) (by simp <;> omega) _)⟩
 | false=>
 rw[q2] at hR
 cases q3:nm.isEmpty with
 | false=>
  rw[q3] at hbs hbs2 hR
  have HR:Hid (R=false):=Lh (by rw [hR];simp)
  clear hR
  go_enter Tryz.func57,Tryz.ntmps57
  go_wp2_with fail
  rw[←hW]
  refine (K1.out _ HB0.out).mono ?_
  rintro e w1 ⟨rfl,hb⟩
  have HB1:=Lh (HB0.out.trans (hb.mono HB0.out.size))
  have y:=E0.out.below hb E0.out.lt;have yl:=F0.out.below hb F0.out.lt;have yr:=G0.out.below hb G0.out.lt
  have E1:=Lh y;have F1:=Lh yl;have G1:=Lh yr
  obtain ⟨x0,x1,x2,x3,x4,x5,_⟩:=cells6 y
  obtain ⟨r0,r1,r2,r3,r4,r5,z1⟩:=cells6 yr
  obtain ⟨rf0,rf1,rf2,rf3,rf4,rf5⟩:=frees6 yr
  have v0:=yl.cell 0
  simp at v0
  clear hb y yl yr
  go_wp2_with fail
  go_ret
  exact ⟨ret_bool HR.out.symm,(Below.setCell (Below.setCell HB1.out (by simp <;> omega) _) (by simp <;> omega) _)⟩
 | true=>
 rw[q3] at hbs hbs2 hR
 cases q4:(co != 0) with
 | true=>
  rw[q4] at hR
  have HR:Hid (R=false):=Lh (by rw [hR];simp)
  clear hR
  go_enter Tryz.func57,Tryz.ntmps57
  go_wp2_with fail
  rw[←hW]
  refine (K1.out _ HB0.out).mono ?_
  rintro e w1 ⟨rfl,hb⟩
  have HB1:=Lh (HB0.out.trans (hb.mono HB0.out.size))
  have y:=E0.out.below hb E0.out.lt;have yl:=F0.out.below hb F0.out.lt;have yr:=G0.out.below hb G0.out.lt
  have E1:=Lh y;have F1:=Lh yl;have G1:=Lh yr
  obtain ⟨x0,x1,x2,x3,x4,x5,_⟩:=cells6 y
  obtain ⟨r0,r1,r2,r3,r4,r5,z1⟩:=cells6 yr
  obtain ⟨rf0,rf1,rf2,rf3,rf4,rf5⟩:=frees6 yr
  have v0:=yl.cell 0
  simp at v0
  clear hb y yl yr
  go_wp2_with fail
  go_ret
  exact ⟨ret_bool HR.out.symm,(Below.setCell (Below.setCell HB1.out (by simp <;> omega) _) (by simp <;> omega) _)⟩
 | false=>
 rw[q4] at hR
 have HR:Hid (R=ks.all b):=Lh (by rw [hR];simp)
 clear hR
 go_enter Tryz.func57,Tryz.ntmps57
 go_wp2_with fail
 rw[←hW]
 refine (K1.out _ HB0.out).mono ?_
 rintro e w1 ⟨rfl,hb⟩
 have HB1:=Lh (HB0.out.trans (hb.mono HB0.out.size))
 have y:=E0.out.below hb E0.out.lt;have yl:=F0.out.below hb F0.out.lt;have yr:=G0.out.below hb G0.out.lt
 have E1:=Lh y;have F1:=Lh yl;have G1:=Lh yr
 obtain ⟨x0,x1,x2,x3,x4,x5,_⟩:=cells6 y
 obtain ⟨r0,r1,r2,r3,r4,r5,z1⟩:=cells6 yr
 obtain ⟨rf0,rf1,rf2,rf3,rf4,rf5⟩:=frees6 yr
 have v0:=yl.cell 0
 simp at v0
 clear hb y yl yr
 go_wp2_with fail
 refine (Hall.out _ (Below.setCell (Below.setCell HB1.out (by simp <;> omega) _) (by simp <;> omega) _) (Blk.far (Blk.far F1.out (by simp <;> omega) _) (by simp <;> omega) _)).mono ?_
 rintro e w9 ⟨rfl,hb⟩
 have HB9:Hid (Below w.heap.size w w9):=Lh (Below.trans (Below.setCell (Below.setCell HB1.out (by simp <;> omega) _) (by simp <;> omega) _) (hb.mono (Below.setCell (Below.setCell HB1.out (by simp <;> omega) _) (by simp <;> omega) _).size))
 clear hb
 go_wp2_with fail
 go_ret
 exact ⟨ret_bool (by simp [HR.out]),HB9.out⟩
set_option maxRecDepth 20000 in
set_option maxHeartbeats 8000000 in
theorem rok9 (z:Int) (hz:decide ((16:Int) < z)=false) (b:Sx.Rule→Bool) (co n d:Int) (nm:List UInt8) (ks:List Sx.Rule) (A:Option Addr) (m c:Nat) (_hm:m=ks.length) (hn:nm.length≤140737488351232) (w:World)
  (hall:∀ W,Below w.heap.size w W→Blk W (w.heap.size+1) 3 #[.int .i64 z]→Calls Tryz.prog 147 #[.slice A m c,.func (.func 148) #[] #[.pointer (some ⟨w.heap.size+1,0,none⟩)]] W (BoolPost (!ks.all b) W)) :
  Calls Tryz.prog 57 #[.agg #[.int .i64 9,.int .i64 co,.string (Lx.bs nm),.int .i64 n,.int .i64 d,.slice A m c],.int .i64 z] w (BoolPost (!decide ((200:Int) < (m:Int)) && Sx.refOk nm co && !decide (0 < m) && !(n != 0) && !(d != 0) && ks.all b) w):=by
 obtain ⟨R,hR⟩:∃ R:Bool,R=(!decide ((200:Int) < (m:Int)) && Sx.refOk nm co && !decide (0 < m) && !(n != 0) && !(d != 0) && ks.all b):=⟨_,rfl⟩
 rw[←hR]
 have Hall:=Lh hall
 obtain ⟨W,hW⟩:∃ W,W=((w.alloc (.cells #[.int .i64 9,.int .i64 co,.string (Lx.bs nm),.int .i64 n,.int .i64 d,.slice A m c] 38)).alloc (.cells #[.int .i64 z] 3)).alloc (.cells #[.int .i64 0,.int .i64 co,.string (Lx.bs nm),.int .i64 n,.int .i64 d,.slice none 0 0] 38):=⟨_,rfl⟩
 have hbW:Below w.heap.size w W:=by
  rw[hW]
  exact ((Below.refl _ _).alloc (Nat.le_refl _) _).alloc (by simp) _ |>.alloc (by simp;omega) _
 have e0:Blk W w.heap.size 38 #[.int .i64 9,.int .i64 co,.string (Lx.bs nm),.int .i64 n,.int .i64 d,.slice A m c]:=by rw [hW];exact ((Blk.new w _ _).alloc _).alloc _
 have e1:Blk W (w.heap.size+1) 3 #[.int .i64 z]:=by rw [hW];exact (Blk.new_at _ _ (by simp)).alloc _
 have e2:Blk W (w.heap.size+1+1) 38 #[.int .i64 0,.int .i64 co,.string (Lx.bs nm),.int .i64 n,.int .i64 d,.slice none 0 0]:=by rw [hW];exact Blk.new_at _ _ (by simp)
 have hw0:Below w.heap.size w ((w.alloc (.cells #[.int .i64 9,.int .i64 co,.string (Lx.bs nm),.int .i64 n,.int .i64 d,.slice A m c] 38)).alloc (.cells #[.int .i64 z] 3)):=((Below.refl _ _).alloc (Nat.le_refl _) _).alloc (by simp) _
 have HB0:=Lh hbW;have E0:=Lh e0;have F0:=Lh e1;have G0:=Lh e2;have HW0:=Lh hw0
 have hbs:((Lx.bs nm).toList == (⟨#[]⟩:ByteArray).toList)=nm.isEmpty:=by rw [ByteArray.toList_eq,ByteArray.toList_eq,Lx.bs_list];cases nm <;> rfl
 have hbs2:(Lx.bs nm).toList.isEmpty=nm.isEmpty:=by rw [ByteArray.toList_eq,Lx.bs_list]
 clear hall hbW e0 e1 e2 hw0 _hm
 have K1:=Lh (fun (W:World) (_:Below w.heap.size w W)=>sRefOk nm co W hn)
 cases q0:decide ((200:Int) < (m:Int)) with
 | true=>
  rw[q0] at hR
  have HR:Hid (R=false):=Lh (by rw [hR];simp)
  clear hR
  go_enter Tryz.func57,Tryz.ntmps57
  go_wp2_with fail
  go_ret
  exact ⟨ret_bool HR.out.symm,HW0.out⟩
 | false=>
 rw[q0] at hR
 cases q1:Sx.refOk nm co with
 | false=>
  rw[q1] at K1 hR
  have HR:Hid (R=false):=Lh (by rw [hR];simp)
  clear hR
  go_enter Tryz.func57,Tryz.ntmps57
  go_wp2_with fail
  rw[←hW]
  refine (K1.out _ HB0.out).mono ?_
  rintro e w1 ⟨rfl,hb⟩
  have HB1:=Lh (HB0.out.trans (hb.mono HB0.out.size))
  have y:=E0.out.below hb E0.out.lt;have yl:=F0.out.below hb F0.out.lt;have yr:=G0.out.below hb G0.out.lt
  have E1:=Lh y;have F1:=Lh yl;have G1:=Lh yr
  obtain ⟨x0,x1,x2,x3,x4,x5,_⟩:=cells6 y
  obtain ⟨r0,r1,r2,r3,r4,r5,z1⟩:=cells6 yr
  obtain ⟨rf0,rf1,rf2,rf3,rf4,rf5⟩:=frees6 yr
  have v0:=yl.cell 0
  simp at v0
  clear hb y yl yr
  go_wp2_with fail
  go_ret
  exact ⟨ret_bool HR.out.symm,(Below.setCell (Below.setCell HB1.out (by simp <;> omega) _) (by simp <;> omega) _)⟩
 | true=>
 rw[q1] at K1 hR
 cases q2:decide (0 < m) with
 | true=>
  rw[q2] at hR
  have HR:Hid (R=false):=Lh (by rw [hR];simp)
  clear hR
  go_enter Tryz.func57,Tryz.ntmps57
  go_wp2_with fail
  rw[←hW]
  refine (K1.out _ HB0.out).mono ?_
  rintro e w1 ⟨rfl,hb⟩
  have HB1:=Lh (HB0.out.trans (hb.mono HB0.out.size))
  have y:=E0.out.below hb E0.out.lt;have yl:=F0.out.below hb F0.out.lt;have yr:=G0.out.below hb G0.out.lt
  have E1:=Lh y;have F1:=Lh yl;have G1:=Lh yr
  obtain ⟨x0,x1,x2,x3,x4,x5,_⟩:=cells6 y
  obtain ⟨r0,r1,r2,r3,r4,r5,z1⟩:=cells6 yr
  obtain ⟨rf0,rf1,rf2,rf3,rf4,rf5⟩:=frees6 yr
  have v0:=yl.cell 0
  simp at v0
  clear hb y yl yr
  go_wp2_with fail
  go_ret
  exact ⟨ret_bool HR.out.symm,(Below.setCell (Below.setCell HB1.out (by simp <;> omega) _) (by simp <;> omega) _)⟩
 | false=>
 rw[q2] at hR
 cases q3:(n != 0) with
 | true=>
  rw[q3] at hR
  have HR:Hid (R=false):=Lh (by rw [hR];simp)
  clear hR
  go_enter Tryz.func57,Tryz.ntmps57
  go_wp2_with fail
  rw[←hW]
  refine (K1.out _ HB0.out).mono ?_
  rintro e w1 ⟨rfl,hb⟩
  have HB1:=Lh (HB0.out.trans (hb.mono HB0.out.size))
  have y:=E0.out.below hb E0.out.lt;have yl:=F0.out.below hb F0.out.lt;have yr:=G0.out.below hb G0.out.lt
  have E1:=Lh y;have F1:=Lh yl;have G1:=Lh yr
  obtain ⟨x0,x1,x2,x3,x4,x5,_⟩:=cells6 y
  obtain ⟨r0,r1,r2,r3,r4,r5,z1⟩:=cells6 yr
  obtain ⟨rf0,rf1,rf2,rf3,rf4,rf5⟩:=frees6 yr
  have v0:=yl.cell 0
  simp at v0
  clear hb y yl yr
  go_wp2_with fail
  go_ret
  exact ⟨ret_bool HR.out.symm,(Below.setCell (Below.setCell HB1.out (by simp <;> omega) _) (by simp <;> omega) _)⟩
 | false=>
 rw[q3] at hR
 cases q4:(d != 0) with
 | true=>
  rw[q4] at hR
  have HR:Hid (R=false):=Lh (by rw [hR];simp)
  clear hR
  go_enter Tryz.func57,Tryz.ntmps57
  go_wp2_with fail
  rw[←hW]
  refine (K1.out _ HB0.out).mono ?_
  rintro e w1 ⟨rfl,hb⟩
  have HB1:=Lh (HB0.out.trans (hb.mono HB0.out.size))
  have y:=E0.out.below hb E0.out.lt;have yl:=F0.out.below hb F0.out.lt;have yr:=G0.out.below hb G0.out.lt
  have E1:=Lh y;have F1:=Lh yl;have G1:=Lh yr
  obtain ⟨x0,x1,x2,x3,x4,x5,_⟩:=cells6 y
  obtain ⟨r0,r1,r2,r3,r4,r5,z1⟩:=cells6 yr
  obtain ⟨rf0,rf1,rf2,rf3,rf4,rf5⟩:=frees6 yr
  have v0:=yl.cell 0
  simp at v0
  clear hb y yl yr
  go_wp2_with fail
  go_ret
  exact ⟨ret_bool HR.out.symm,(Below.setCell (Below.setCell HB1.out (by simp <;> omega) _) (by simp <;> omega) _)⟩
 | false=>
 rw[q4] at hR
 have HR:Hid (R=ks.all b):=Lh (by rw [hR];simp)
 clear hR
 go_enter Tryz.func57,Tryz.ntmps57
 go_wp2_with fail
 rw[←hW]
 refine (K1.out _ HB0.out).mono ?_
 rintro e w1 ⟨rfl,hb⟩
 have HB1:=Lh (HB0.out.trans (hb.mono HB0.out.size))
 have y:=E0.out.below hb E0.out.lt;have yl:=F0.out.below hb F0.out.lt;have yr:=G0.out.below hb G0.out.lt
 have E1:=Lh y;have F1:=Lh yl;have G1:=Lh yr
 obtain ⟨x0,x1,x2,x3,x4,x5,_⟩:=cells6 y
 obtain ⟨r0,r1,r2,r3,r4,r5,z1⟩:=cells6 yr
 obtain ⟨rf0,rf1,rf2,rf3,rf4,rf5⟩:=frees6 yr
 have v0:=yl.cell 0
 simp at v0
 clear hb y yl yr
 go_wp2_with fail
 refine (Hall.out _ (Below.setCell (Below.setCell HB1.out (by simp <;> omega) _) (by simp <;> omega) _) (Blk.far (Blk.far F1.out (by simp <;> omega) _) (by simp <;> omega) _)).mono ?_
 rintro e w9 ⟨rfl,hb⟩
 have HB9:Hid (Below w.heap.size w w9):=Lh (Below.trans (Below.setCell (Below.setCell HB1.out (by simp <;> omega) _) (by simp <;> omega) _) (hb.mono (Below.setCell (Below.setCell HB1.out (by simp <;> omega) _) (by simp <;> omega) _).size))
 clear hb
 go_wp2_with fail
 go_ret
 exact ⟨ret_bool (by simp [HR.out]),HB9.out⟩
end Go.Proofs.YtjonaidancomgaaGreatDoor
