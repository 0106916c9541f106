/- Parts of the proof, joined into one text: SxRokA. -/
import Derived.Test.YtjonaidancomgaaGreatDoorBSxChain
import Derived.BigQuiet

namespace Go.Proofs.YtjonaidancomgaaGreatDoor
open Go.RowKit

set_option maxRecDepth 20000 in
set_option maxHeartbeats 8000000 in
theorem rok1 (z:Int) (hz:decide ((16:Int) < z)=false) (b:Sx.Rule→Bool) (co n d:Int) (nm:List UInt8) (ks:List Sx.Rule) (A:Option Addr) (m c:Nat) (_hm:m=ks.length) (hn:nm.length≤140737488351232) (w:World)
  (hall:∀ W,Below w.heap.size w W→Blk W (w.heap.size+1) 3 #[.int .i64 z]→Calls Tryz.prog 147 #[.slice A m c,.func (.func 148) #[] #[.pointer (some ⟨w.heap.size+1,0,none⟩)]] W (BoolPost (!ks.all b) W)) :
  Calls Tryz.prog 57 #[.agg #[.int .i64 1,.int .i64 co,.string (Lx.bs nm),.int .i64 n,.int .i64 d,.slice A m c],.int .i64 z] w (BoolPost (!decide ((200:Int) < (m:Int)) && nm.isEmpty && !(co != 0) && !(n != 0) && !(d != 0) && ks.all b) w):=by
 obtain ⟨R,hR⟩:∃ R:Bool,R=(!decide ((200:Int) < (m:Int)) && nm.isEmpty && !(co != 0) && !(n != 0) && !(d != 0) && ks.all b):=⟨_,rfl⟩
 rw[←hR]
 have Hall:=Lh hall
 obtain ⟨W,hW⟩:∃ W,W=((w.alloc (.cells #[.int .i64 1,.int .i64 co,.string (Lx.bs nm),.int .i64 n,.int .i64 d,.slice A m c] 38)).alloc (.cells #[.int .i64 z] 3)).alloc (.cells #[.int .i64 0,.int .i64 co,.string (Lx.bs nm),.int .i64 n,.int .i64 d,.slice none 0 0] 38):=⟨_,rfl⟩
 have hbW:Below w.heap.size w W:=by
  rw[hW]
  exact ((Below.refl _ _).alloc (Nat.le_refl _) _).alloc (by simp) _ |>.alloc (by simp;omega) _
 have e0:Blk W w.heap.size 38 #[.int .i64 1,.int .i64 co,.string (Lx.bs nm),.int .i64 n,.int .i64 d,.slice A m c]:=by rw [hW];exact ((Blk.new w _ _).alloc _).alloc _
 have e1:Blk W (w.heap.size+1) 3 #[.int .i64 z]:=by rw [hW];exact (Blk.new_at _ _ (by simp)).alloc _
 have e2:Blk W (w.heap.size+1+1) 38 #[.int .i64 0,.int .i64 co,.string (Lx.bs nm),.int .i64 n,.int .i64 d,.slice none 0 0]:=by rw [hW];exact Blk.new_at _ _ (by simp)
 have hw0:Below w.heap.size w ((w.alloc (.cells #[.int .i64 1,.int .i64 co,.string (Lx.bs nm),.int .i64 n,.int .i64 d,.slice A m c] 38)).alloc (.cells #[.int .i64 z] 3)):=((Below.refl _ _).alloc (Nat.le_refl _) _).alloc (by simp) _
 have HB0:=Lh hbW;have E0:=Lh e0;have F0:=Lh e1;have G0:=Lh e2;have HW0:=Lh hw0
 have hbs:((Lx.bs nm).toList == (⟨#[]⟩:ByteArray).toList)=nm.isEmpty:=by rw [ByteArray.toList_eq,ByteArray.toList_eq,Lx.bs_list];cases nm <;> rfl
 have hbs2:(Lx.bs nm).toList.isEmpty=nm.isEmpty:=by rw [ByteArray.toList_eq,Lx.bs_list]
 clear hall hbW e0 e1 e2 hw0 _hm
 cases q0:decide ((200:Int) < (m:Int)) with
 | true=>
  rw[q0] at hR
  have HR:Hid (R=false):=Lh (by rw [hR];simp)
  clear hR
  go_enter Tryz.func57,Tryz.ntmps57
  go_wp2_with fail
  go_ret
  exact ⟨ret_bool HR.out.symm,HW0.out⟩
 | false=>
 rw[q0] at hR
 cases q1:nm.isEmpty with
 | false=>
  rw[q1] at hbs hbs2 hR
  have HR:Hid (R=false):=Lh (by rw [hR];simp)
  clear hR
  go_enter Tryz.func57,Tryz.ntmps57
  go_wp2_with fail
  go_ret
  exact ⟨ret_bool HR.out.symm,(by have h:=HB0.out;rw[hW] at h;first | exact h | exact h.drew | exact bel_drewN h _)⟩
 | true=>
 rw[q1] at hbs hbs2 hR
 cases q2:(co != 0) with
 | true=>
  rw[q2] at hR
  have HR:Hid (R=false):=Lh (by rw [hR];simp)
  clear hR
  go_enter Tryz.func57,Tryz.ntmps57
  go_wp2_with fail
  go_ret
  exact ⟨ret_bool HR.out.symm,(by have h:=HB0.out;rw[hW] at h;first | exact h | exact h.drew | exact bel_drewN h _)⟩
 | false=>
 rw[q2] at hR
 cases q3:(n != 0) with
 | true=>
  rw[q3] at hR
  have HR:Hid (R=false):=Lh (by rw [hR];simp)
  clear hR
  go_enter Tryz.func57,Tryz.ntmps57
  go_wp2_with fail
  go_ret
  exact ⟨ret_bool HR.out.symm,(by have h:=HB0.out;rw[hW] at h;first | exact h | exact h.drew | exact bel_drewN h _)⟩
 | false=>
 rw[q3] at hR
 cases q4:(d != 0) with
 | true=>
  rw[q4] at hR
  have HR:Hid (R=false):=Lh (by rw [hR];simp)
  clear hR
  go_enter Tryz.func57,Tryz.ntmps57
  go_wp2_with fail
  go_ret
  exact ⟨ret_bool HR.out.symm,(by have h:=HB0.out;rw[hW] at h;first | exact h | exact h.drew | exact bel_drewN h _)⟩
 | false=>
 rw[q4] at hR
 have HR:Hid (R=ks.all b):=Lh (by rw [hR];simp)
 clear hR
 go_enter Tryz.func57,Tryz.ntmps57
 go_wp2_with fail
 rw[←hW]
 refine (Hall.out _ HB0.out F0.out).mono ?_
 rintro e w9 ⟨rfl,hb⟩
 have HB9:Hid (Below w.heap.size w w9):=Lh (Below.trans HB0.out (hb.mono HB0.out.size))
 clear hb
 go_wp2_with fail
 go_ret
 exact ⟨ret_bool (by simp [HR.out]),HB9.out⟩
set_option maxRecDepth 20000 in
set_option maxHeartbeats 8000000 in
theorem rok2 (z:Int) (hz:decide ((16:Int) < z)=false) (b:Sx.Rule→Bool) (co n d:Int) (nm:List UInt8) (ks:List Sx.Rule) (A:Option Addr) (m c:Nat) (_hm:m=ks.length) (hn:nm.length≤140737488351232) (w:World)
  (hall:∀ W,Below w.heap.size w W→Blk W (w.heap.size+1) 3 #[.int .i64 z]→Calls Tryz.prog 147 #[.slice A m c,.func (.func 148) #[] #[.pointer (some ⟨w.heap.size+1,0,none⟩)]] W (BoolPost (!ks.all b) W)) :
  Calls Tryz.prog 57 #[.agg #[.int .i64 2,.int .i64 co,.string (Lx.bs nm),.int .i64 n,.int .i64 d,.slice A m c],.int .i64 z] w (BoolPost (!decide ((200:Int) < (m:Int)) && nm.isEmpty && !(co != 0) && !(n != 0) && !(d != 0) && ks.all b) w):=by
 obtain ⟨R,hR⟩:∃ R:Bool,R=(!decide ((200:Int) < (m:Int)) && nm.isEmpty && !(co != 0) && !(n != 0) && !(d != 0) && ks.all b):=⟨_,rfl⟩
 rw[←hR]
 have Hall:=Lh hall
 obtain ⟨W,hW⟩:∃ W,W=((w.alloc (.cells #[.int .i64 2,.int .i64 co,.string (Lx.bs nm),.int .i64 n,.int .i64 d,.slice A m c] 38)).alloc (.cells #[.int .i64 z] 3)).alloc (.cells #[.int .i64 0,.int .i64 co,.string (Lx.bs nm),.int .i64 n,.int .i64 d,.slice none 0 0] 38):=⟨_,rfl⟩
 have hbW:Below w.heap.size w W:=by
  rw[hW]
  exact ((Below.refl _ _).alloc (Nat.le_refl _) _).alloc (by simp) _ |>.alloc (by simp;omega) _
 have e0:Blk W w.heap.size 38 #[.int .i64 2,.int .i64 co,.string (Lx.bs nm),.int .i64 n,.int .i64 d,.slice A m c]:=by rw [hW];exact ((Blk.new w _ _).alloc _).alloc _
 have e1:Blk W (w.heap.size+1) 3 #[.int .i64 z]:=by rw [hW];exact (Blk.new_at _ _ (by simp)).alloc _
 have e2:Blk W (w.heap.size+1+1) 38 #[.int .i64 0,.int .i64 co,.string (Lx.bs nm),.int .i64 n,.int .i64 d,.slice none 0 0]:=by rw [hW];exact Blk.new_at _ _ (by simp)
 have hw0:Below w.heap.size w ((w.alloc (.cells #[.int .i64 2,.int .i64 co,.string (Lx.bs nm),.int .i64 n,.int .i64 d,.slice A m c] 38)).alloc (.cells #[.int .i64 z] 3)):=((Below.refl _ _).alloc (Nat.le_refl _) _).alloc (by simp) _
 have HB0:=Lh hbW;have E0:=Lh e0;have F0:=Lh e1;have G0:=Lh e2;have HW0:=Lh hw0
 have hbs:((Lx.bs nm).toList == (⟨#[]⟩:ByteArray).toList)=nm.isEmpty:=by rw [ByteArray.toList_eq,ByteArray.toList_eq,Lx.bs_list];cases nm <;> rfl
 have hbs2:(Lx.bs nm).toList.isEmpty=nm.isEmpty:=by rw [ByteArray.toList_eq,Lx.bs_list]
 clear hall hbW e0 e1 e2 hw0 _hm
 cases q0:decide ((200:Int) < (m:Int)) with
 | true=>
  rw[q0] at hR
  have HR:Hid (R=false):=Lh (by rw [hR];simp)
  clear hR
  go_enter Tryz.func57,Tryz.ntmps57
  go_wp2_with fail
  go_ret
  exact ⟨ret_bool HR.out.symm,HW0.out⟩
 | false=>
 rw[q0] at hR
 cases q1:nm.isEmpty with
 | false=>
  rw[q1] at hbs hbs2 hR
  have HR:Hid (R=false):=Lh (by rw [hR];simp)
  clear hR
  go_enter Tryz.func57,Tryz.ntmps57
  go_wp2_with fail
  go_ret
  exact ⟨ret_bool HR.out.symm,(by have h:=HB0.out;rw[hW] at h;first | exact h | exact h.drew | exact bel_drewN h _)⟩
 | true=>
 rw[q1] at hbs hbs2 hR
 cases q2:(co != 0) with
 | true=>
  rw[q2] at hR
  have HR:Hid (R=false):=Lh (by rw [hR];simp)
  clear hR
  go_enter Tryz.func57,Tryz.ntmps57
  go_wp2_with fail
  go_ret
  exact ⟨ret_bool HR.out.symm,(by have h:=HB0.out;rw[hW] at h;first | exact h | exact h.drew | exact bel_drewN h _)⟩
 | false=>
 rw[q2] at hR
 cases q3:(n != 0) with
 | true=>
  rw[q3] at hR
  have HR:Hid (R=false):=Lh (by rw [hR];simp)
  clear hR
  go_enter Tryz.func57,Tryz.ntmps57
  go_wp2_with fail
  go_ret
  exact ⟨ret_bool HR.out.symm,(by have h:=HB0.out;rw[hW] at h;first | exact h | exact h.drew | exact bel_drewN h _)⟩
 | false=>
 rw[q3] at hR
 cases q4:(d != 0) with
 | true=>
  rw[q4] at hR
  have HR:Hid (R=false):=Lh (by rw [hR];simp)
  clear hR
  go_enter Tryz.func57,Tryz.ntmps57
  go_wp2_with fail
  go_ret
  exact ⟨ret_bool HR.out.symm,(by have h:=HB0.out;rw[hW] at h;first | exact h | exact h.drew | exact bel_drewN h _)⟩
 | false=>
 rw[q4] at hR
 have HR:Hid (R=ks.all b):=Lh (by rw [hR];simp)
 clear hR
 go_enter Tryz.func57,Tryz.ntmps57
 go_wp2_with fail
 rw[←hW]
 refine (Hall.out _ HB0.out F0.out).mono ?_
 rintro e w9 ⟨rfl,hb⟩
 have HB9:Hid (Below w.heap.size w w9):=Lh (Below.trans HB0.out (hb.mono HB0.out.size))
 clear hb
 go_wp2_with fail
 go_ret
 exact ⟨ret_bool (by simp [HR.out]),HB9.out⟩
set_option maxRecDepth 20000 in
set_option maxHeartbeats 8000000 in
theorem rok3 (z:Int) (hz:decide ((16:Int) < z)=false) (b:Sx.Rule→Bool) (co n d:Int) (nm:List UInt8) (ks:List Sx.Rule) (A:Option Addr) (m c:Nat) (_hm:m=ks.length) (hn:nm.length≤140737488351232) (w:World)
  (hall:∀ W,Below w.heap.size w W→Blk W (w.heap.size+1) 3 #[.int .i64 z]→Calls Tryz.prog 147 #[.slice A m c,.func (.func 148) #[] #[.pointer (some ⟨w.heap.size+1,0,none⟩)]] W (BoolPost (!ks.all b) W)) :
  Calls Tryz.prog 57 #[.agg #[.int .i64 3,.int .i64 co,.string (Lx.bs nm),.int .i64 n,.int .i64 d,.slice A m c],.int .i64 z] w (BoolPost (!decide ((200:Int) < (m:Int)) && Sx.inB n 0 200 && nm.isEmpty && !(co != 0) && !(d != 0) && ks.all b) w):=by
 obtain ⟨R,hR⟩:∃ R:Bool,R=(!decide ((200:Int) < (m:Int)) && Sx.inB n 0 200 && nm.isEmpty && !(co != 0) && !(d != 0) && ks.all b):=⟨_,rfl⟩
 rw[←hR]
 have Hall:=Lh hall
 obtain ⟨W,hW⟩:∃ W,W=((w.alloc (.cells #[.int .i64 3,.int .i64 co,.string (Lx.bs nm),.int .i64 n,.int .i64 d,.slice A m c] 38)).alloc (.cells #[.int .i64 z] 3)).alloc (.cells #[.int .i64 0,.int .i64 co,.string (Lx.bs nm),.int .i64 n,.int .i64 d,.slice none 0 0] 38):=⟨_,rfl⟩
 have hbW:Below w.heap.size w W:=by
  rw[hW]
  exact ((Below.refl _ _).alloc (Nat.le_refl _) _).alloc (by simp) _ |>.alloc (by simp;omega) _
 have e0:Blk W w.heap.size 38 #[.int .i64 3,.int .i64 co,.string (Lx.bs nm),.int .i64 n,.int .i64 d,.slice A m c]:=by rw [hW];exact ((Blk.new w _ _).alloc _).alloc _
 have e1:Blk W (w.heap.size+1) 3 #[.int .i64 z]:=by rw [hW];exact (Blk.new_at _ _ (by simp)).alloc _
 have e2:Blk W (w.heap.size+1+1) 38 #[.int .i64 0,.int .i64 co,.string (Lx.bs nm),.int .i64 n,.int .i64 d,.slice none 0 0]:=by rw [hW];exact Blk.new_at _ _ (by simp)
 have hw0:Below w.heap.size w ((w.alloc (.cells #[.int .i64 3,.int .i64 co,.string (Lx.bs nm),.int .i64 n,.int .i64 d,.slice A m c] 38)).alloc (.cells #[.int .i64 z] 3)):=((Below.refl _ _).alloc (Nat.le_refl _) _).alloc (by simp) _
 have HB0:=Lh hbW;have E0:=Lh e0;have F0:=Lh e1;have G0:=Lh e2;have HW0:=Lh hw0
 have hbs:((Lx.bs nm).toList == (⟨#[]⟩:ByteArray).toList)=nm.isEmpty:=by rw [ByteArray.toList_eq,ByteArray.toList_eq,Lx.bs_list];cases nm <;> rfl
 have hbs2:(Lx.bs nm).toList.isEmpty=nm.isEmpty:=by rw [ByteArray.toList_eq,Lx.bs_list]
 clear hall hbW e0 e1 e2 hw0 _hm
 have K1:=Lh (fun (W:World) (_:Below w.heap.size w W)=>sIn n 0 200 W)
 cases q0:decide ((200:Int) < (m:Int)) with
 | true=>
  rw[q0] at hR
  have HR:Hid (R=false):=Lh (by rw [hR];simp)
  clear hR
  go_enter Tryz.func57,Tryz.ntmps57
  go_wp2_with fail
  go_ret
  exact ⟨ret_bool HR.out.symm,HW0.out⟩
 | false=>
 rw[q0] at hR
 cases q1:Sx.inB n 0 200 with
 | false=>
  rw[q1] at K1 hR
  have HR:Hid (R=false):=Lh (by rw [hR];simp)
  clear hR
  go_enter Tryz.func57,Tryz.ntmps57
  go_wp2_with fail
  rw[←hW]
  refine (K1.out _ HB0.out).mono ?_
  rintro e w1 ⟨rfl,hb⟩
  have HB1:=Lh (HB0.out.trans (hb.mono HB0.out.size))
  have y:=E0.out.below hb E0.out.lt;have yl:=F0.out.below hb F0.out.lt;have yr:=G0.out.below hb G0.out.lt
  have E1:=Lh y;have F1:=Lh yl;have G1:=Lh yr
  obtain ⟨x0,x1,x2,x3,x4,x5,_⟩:=cells6 y
  obtain ⟨r0,r1,r2,r3,r4,r5,z1⟩:=cells6 yr
  obtain ⟨rf0,rf1,rf2,rf3,rf4,rf5⟩:=frees6 yr
  have v0:=yl.cell 0
  simp at v0
  clear hb y yl yr
  go_wp2_with fail
  go_ret
  exact ⟨ret_bool HR.out.symm,(Below.setCell HB1.out (by simp <;> omega) _)⟩
 | true=>
 rw[q1] at K1 hR
 cases q2:nm.isEmpty with
 | false=>
  rw[q2] at hbs hbs2 hR
  have HR:Hid (R=false):=Lh (by rw [hR];simp)
  clear hR
  go_enter Tryz.func57,Tryz.ntmps57
  go_wp2_with fail
  rw[←hW]
  refine (K1.out _ HB0.out).mono ?_
  rintro e w1 ⟨rfl,hb⟩
  have HB1:=Lh (HB0.out.trans (hb.mono HB0.out.size))
  have y:=E0.out.below hb E0.out.lt;have yl:=F0.out.below hb F0.out.lt;have yr:=G0.out.below hb G0.out.lt
  have E1:=Lh y;have F1:=Lh yl;have G1:=Lh yr
  obtain ⟨x0,x1,x2,x3,x4,x5,_⟩:=cells6 y
  obtain ⟨r0,r1,r2,r3,r4,r5,z1⟩:=cells6 yr
  obtain ⟨rf0,rf1,rf2,rf3,rf4,rf5⟩:=frees6 yr
  have v0:=yl.cell 0
  simp at v0
  clear hb y yl yr
  go_wp2_with fail
  go_ret
  exact ⟨ret_bool HR.out.symm,(Below.setCell HB1.out (by simp <;> omega) _)⟩
 | true=>
 rw[q2] at hbs hbs2 hR
 cases q3:(co != 0) with
 | true=>
  rw[q3] at hR
  have HR:Hid (R=false):=Lh (by rw [hR];simp)
  clear hR
  go_enter Tryz.func57,Tryz.ntmps57
  go_wp2_with fail
  rw[←hW]
  refine (K1.out _ HB0.out).mono ?_
  rintro e w1 ⟨rfl,hb⟩
  have HB1:=Lh (HB0.out.trans (hb.mono HB0.out.size))
  have y:=E0.out.below hb E0.out.lt;have yl:=F0.out.below hb F0.out.lt;have yr:=G0.out.below hb G0.out.lt
  have E1:=Lh y;have F1:=Lh yl;have G1:=Lh yr
  obtain ⟨x0,x1,x2,x3,x4,x5,_⟩:=cells6 y
  obtain ⟨r0,r1,r2,r3,r4,r5,z1⟩:=cells6 yr
  obtain ⟨rf0,rf1,rf2,rf3,rf4,rf5⟩:=frees6 yr
  have v0:=yl.cell 0
  simp at v0
  clear hb y yl yr
  go_wp2_with fail
  go_ret
  exact ⟨ret_bool HR.out.symm,(Below.setCell HB1.out (by simp <;> omega) _)⟩
 | false=>
 rw[q3] at hR
 cases q4:(d != 0) with
 | true=>
  rw[q4] at hR
  have HR:Hid (R=false):=Lh (by rw [hR];simp)
  clear hR
  go_enter Tryz.func57,Tryz.ntmps57
  go_wp2_with fail
  rw[←hW]
  refine (K1.out _ HB0.out).mono ?_
  rintro e w1 ⟨rfl,hb⟩
  have HB1:=Lh (HB0.out.trans (hb.mono HB0.out.size))
  have y:=E0.out.below hb E0.out.lt;have yl:=F0.out.below hb F0.out.lt;have yr:=G0.out.below hb G0.out.lt
  have E1:=Lh y;have F1:=Lh yl;have G1:=Lh yr
  obtain ⟨x0,x1,x2,x3,x4,x5,_⟩:=cells6 y
  obtain ⟨r0,r1,r2,r3,r4,r5,z1⟩:=cells6 yr
  obtain ⟨rf0,rf1,rf2,rf3,rf4,rf5⟩:=frees6 yr
  have v0:=yl.cell 0
  simp at v0
  clear hb y yl yr
  go_wp2_with fail
  go_ret
  exact ⟨ret_bool HR.out.symm,(Below.setCell HB1.out (by simp <;> omega) _)⟩
 | false=>
 rw[q4] at hR
 have HR:Hid (R=ks.all b):=Lh (by rw [hR];simp)
 clear hR
 go_enter Tryz.func57,Tryz.ntmps57
 go_wp2_with fail
 rw[←hW]
 refine (K1.out _ HB0.out).mono ?_
 rintro e w1 ⟨rfl,hb⟩
 have HB1:=Lh (HB0.out.trans (hb.mono HB0.out.size))
 have y:=E0.out.below hb E0.out.lt;have yl:=F0.out.below hb F0.out.lt;have yr:=G0.out.below hb G0.out.lt
 have E1:=Lh y;have F1:=Lh yl;have G1:=Lh yr
 obtain ⟨x0,x1,x2,x3,x4,x5,_⟩:=cells6 y
 obtain ⟨r0,r1,r2,r3,r4,r5,z1⟩:=cells6 yr
 obtain ⟨rf0,rf1,rf2,rf3,rf4,rf5⟩:=frees6 yr
 have v0:=yl.cell 0
 simp at v0
 clear hb y yl yr
 go_wp2_with fail
 refine (Hall.out _ (Below.setCell HB1.out (by simp <;> omega) _) (Blk.far F1.out (by simp <;> omega) _)).mono ?_
 rintro e w9 ⟨rfl,hb⟩
 have HB9:Hid (Below w.heap.size w w9):=Lh (Below.trans (Below.setCell HB1.out (by simp <;> omega) _) (hb.mono (Below.setCell HB1.out (by simp <;> omega) _).size))
 clear hb
 go_wp2_with fail
 go_ret
 exact ⟨ret_bool (by simp [HR.out]),HB9.out⟩
set_option maxRecDepth 20000 in
set_option maxHeartbeats 8000000 in
theorem rok4 (z:Int) (hz:decide ((16:Int) < z)=false) (b:Sx.Rule→Bool) (co n d:Int) (nm:List UInt8) (ks:List Sx.Rule) (A:Option Addr) (m c:Nat) (_hm:m=ks.length) (hn:nm.length≤140737488351232) (w:World)
  (hall:∀ W,Below w.heap.size w W→Blk W (w.heap.size+1) 3 #[.int .i64 z]→Calls Tryz.prog 147 #[.slice A m c,.func (.func 148) #[] #[.pointer (some ⟨w.heap.size+1,0,none⟩)]] W (BoolPost (!ks.all b) W)) :
  Calls Tryz.prog 57 #[.agg #[.int .i64 4,.int .i64 co,.string (Lx.bs nm),.int .i64 n,.int .i64 d,.slice A m c],.int .i64 z] w (BoolPost (!decide ((200:Int) < (m:Int)) && ((m:Int) == 1) && nm.isEmpty && !(co != 0) && !(n != 0) && !(d != 0) && ks.all b) w):=by
 obtain ⟨R,hR⟩:∃ R:Bool,R=(!decide ((200:Int) < (m:Int)) && ((m:Int) == 1) && nm.isEmpty && !(co != 0) && !(n != 0) && !(d != 0) && ks.all b):=⟨_,rfl⟩
 rw[←hR]
 have Hall:=Lh hall
 obtain ⟨W,hW⟩:∃ W,W=((w.alloc (.cells #[.int .i64 4,.int .i64 co,.string (Lx.bs nm),.int .i64 n,.int .i64 d,.slice A m c] 38)).alloc (.cells #[.int .i64 z] 3)).alloc (.cells #[.int .i64 0,.int .i64 co,.string (Lx.bs nm),.int .i64 n,.int .i64 d,.slice none 0 0] 38):=⟨_,rfl⟩
 have hbW:Below w.heap.size w W:=by
  rw[hW]
  exact ((Below.refl _ _).alloc (Nat.le_refl _) _).alloc (by simp) _ |>.alloc (by simp;omega) _
 have e0:Blk W w.heap.size 38 #[.int .i64 4,.int .i64 co,.string (Lx.bs nm),.int .i64 n,.int .i64 d,.slice A m c]:=by rw [hW];exact ((Blk.new w _ _).alloc _).alloc _
 have e1:Blk W (w.heap.size+1) 3 #[.int .i64 z]:=by rw [hW];exact (Blk.new_at _ _ (by simp)).alloc _
 have e2:Blk W (w.heap.size+1+1) 38 #[.int .i64 0,.int .i64 co,.string (Lx.bs nm),.int .i64 n,.int .i64 d,.slice none 0 0]:=by rw [hW];exact Blk.new_at _ _ (by simp)
 have hw0:Below w.heap.size w ((w.alloc (.cells #[.int .i64 4,.int .i64 co,.string (Lx.bs nm),.int .i64 n,.int .i64 d,.slice A m c] 38)).alloc (.cells #[.int .i64 z] 3)):=((Below.refl _ _).alloc (Nat.le_refl _) _).alloc (by simp) _
 have HB0:=Lh hbW;have E0:=Lh e0;have F0:=Lh e1;have G0:=Lh e2;have HW0:=Lh hw0
 have hbs:((Lx.bs nm).toList == (⟨#[]⟩:ByteArray).toList)=nm.isEmpty:=by rw [ByteArray.toList_eq,ByteArray.toList_eq,Lx.bs_list];cases nm <;> rfl
 have hbs2:(Lx.bs nm).toList.isEmpty=nm.isEmpty:=by rw [ByteArray.toList_eq,Lx.bs_list]
 clear hall hbW e0 e1 e2 hw0 _hm
 cases q0:decide ((200:Int) < (m:Int)) with
 | true=>
  rw[q0] at hR
  have HR:Hid (R=false):=Lh (by rw [hR];simp)
  clear hR
  go_enter Tryz.func57,Tryz.ntmps57
  go_wp2_with fail
  go_ret
  exact ⟨ret_bool HR.out.symm,HW0.out⟩
 | false=>
 rw[q0] at hR
 cases q1:((m:Int) == 1) with
 | false=>
  rw[q1] at hR
  have HR:Hid (R=false):=Lh (by rw [hR];simp)
  clear hR
  go_enter Tryz.func57,Tryz.ntmps57
  go_wp2_with fail
  go_quiet (fail)
  all_goals (try go_wp2_with fail)
  all_goals go_ret
  all_goals exact ⟨ret_bool HR.out.symm,(by have h:=HB0.out;rw[hW] at h;first | exact h | exact h.drew | exact bel_drewN h _)⟩
 | true=>
 rw[q1] at hR
 cases q2:nm.isEmpty with
 | false=>
  rw[q2] at hbs hbs2 hR
  have HR:Hid (R=false):=Lh (by rw [hR];simp)
  clear hR
  go_enter Tryz.func57,Tryz.ntmps57
  go_wp2_with fail
  go_quiet (fail)
  all_goals (try go_wp2_with fail)
  all_goals go_ret
  all_goals exact ⟨ret_bool HR.out.symm,(by have h:=HB0.out;rw[hW] at h;first | exact h | exact h.drew | exact bel_drewN h _)⟩
 | true=>
 rw[q2] at hbs hbs2 hR
 cases q3:(co != 0) with
 | true=>
  rw[q3] at hR
  have HR:Hid (R=false):=Lh (by rw [hR];simp)
  clear hR
  go_enter Tryz.func57,Tryz.ntmps57
  go_wp2_with fail
  go_quiet (fail)
  all_goals (try go_wp2_with fail)
  all_goals go_ret
  all_goals exact ⟨ret_bool HR.out.symm,(by have h:=HB0.out;rw[hW] at h;first | exact h | exact h.drew | exact bel_drewN h _)⟩
 | false=>
 rw[q3] at hR
 cases q4:(n != 0) with
 | true=>
  rw[q4] at hR
  have HR:Hid (R=false):=Lh (by rw [hR];simp)
  clear hR
  go_enter Tryz.func57,Tryz.ntmps57
  go_wp2_with fail
  go_quiet (fail)
  all_goals (try go_wp2_with fail)
  all_goals go_ret
  all_goals exact ⟨ret_bool HR.out.symm,(by have h:=HB0.out;rw[hW] at h;first | exact h | exact h.drew | exact bel_drewN h _)⟩
 | false=>
 rw[q4] at hR
 cases q5:(d != 0) with
 | true=>
  rw[q5] at hR
  have HR:Hid (R=false):=Lh (by rw [hR];simp)
  clear hR
  go_enter Tryz.func57,Tryz.ntmps57
  go_wp2_with fail
  go_quiet (fail)
  all_goals (try go_wp2_with fail)
  all_goals go_ret
  all_goals exact ⟨ret_bool HR.out.symm,(by have h:=HB0.out;rw[hW] at h;first | exact h | exact h.drew | exact bel_drewN h _)⟩
 | false=>
 rw[q5] at hR
 have HR:Hid (R=ks.all b):=Lh (by rw [hR];simp)
 clear hR
 go_enter Tryz.func57,Tryz.ntmps57
 go_wp2_with fail
 go_quiet (fail)
 all_goals (try go_wp2_with fail)
 all_goals rw [←hW]
 all_goals refine (Hall.out _ (by first | exact HB0.out | exact HB0.out.drew | exact bel_drewN HB0.out _) (by first | exact F0.out | exact F0.out.drew | exact F0.out.drewN _)).mono ?_
 all_goals rintro e w9 ⟨rfl,hb⟩
 all_goals have HB9:Hid (Below w.heap.size w w9):=Lh (Below.trans (by first | exact HB0.out | exact HB0.out.drew | exact bel_drewN HB0.out _) (hb.mono HB0.out.size))
 all_goals clear hb
 all_goals go_wp2_with fail
 all_goals go_ret
 all_goals exact ⟨ret_bool (by simp [HR.out]),HB9.out⟩
set_option maxRecDepth 20000 in
set_option maxHeartbeats 8000000 in
theorem rokNo (z:Int) (hz:decide ((16:Int) < z)=false) (b:Sx.Rule→Bool) (op co n d:Int) (nm:List UInt8) (ks:List Sx.Rule) (A:Option Addr) (m c:Nat) (_hm:m=ks.length) (hn:nm.length≤140737488351232) (w:World) (o1:(op == 1)=false) (o2:(op == 2)=false) (o3:(op == 3)=false) (o4:(op == 4)=false) (o5:(op == 5)=false) (o6:(op == 6)=false) (o7:(op == 7)=false) (o8:(op == 8)=false) (o9:(op == 9)=false)
  (hall:∀ W,Below w.heap.size w W→Blk W (w.heap.size+1) 3 #[.int .i64 z]→Calls Tryz.prog 147 #[.slice A m c,.func (.func 148) #[] #[.pointer (some ⟨w.heap.size+1,0,none⟩)]] W (BoolPost (!ks.all b) W)) :
  Calls Tryz.prog 57 #[.agg #[.int .i64 op,.int .i64 co,.string (Lx.bs nm),.int .i64 n,.int .i64 d,.slice A m c],.int .i64 z] w (BoolPost (false) w):=by
 obtain ⟨R,hR⟩:∃ R:Bool,R=(false):=⟨_,rfl⟩
 rw[←hR]
 have Hall:=Lh hall
 obtain ⟨W,hW⟩:∃ W,W=((w.alloc (.cells #[.int .i64 op,.int .i64 co,.string (Lx.bs nm),.int .i64 n,.int .i64 d,.slice A m c] 38)).alloc (.cells #[.int .i64 z] 3)).alloc (.cells #[.int .i64 0,.int .i64 co,.string (Lx.bs nm),.int .i64 n,.int .i64 d,.slice none 0 0] 38):=⟨_,rfl⟩
 have hbW:Below w.heap.size w W:=by
  rw[hW]
  exact ((Below.refl _ _).alloc (Nat.le_refl _) _).alloc (by simp) _ |>.alloc (by simp;omega) _
 have e0:Blk W w.heap.size 38 #[.int .i64 op,.int .i64 co,.string (Lx.bs nm),.int .i64 n,.int .i64 d,.slice A m c]:=by rw [hW];exact ((Blk.new w _ _).alloc _).alloc _
 have e1:Blk W (w.heap.size+1) 3 #[.int .i64 z]:=by rw [hW];exact (Blk.new_at _ _ (by simp)).alloc _
 have e2:Blk W (w.heap.size+1+1) 38 #[.int .i64 0,.int .i64 co,.string (Lx.bs nm),.int .i64 n,.int .i64 d,.slice none 0 0]:=by rw [hW];exact Blk.new_at _ _ (by simp)
 have hw0:Below w.heap.size w ((w.alloc (.cells #[.int .i64 op,.int .i64 co,.string (Lx.bs nm),.int .i64 n,.int .i64 d,.slice A m c] 38)).alloc (.cells #[.int .i64 z] 3)):=((Below.refl _ _).alloc (Nat.le_refl _) _).alloc (by simp) _
 have HB0:=Lh hbW;have E0:=Lh e0;have F0:=Lh e1;have G0:=Lh e2;have HW0:=Lh hw0
 have hbs:((Lx.bs nm).toList == (⟨#[]⟩:ByteArray).toList)=nm.isEmpty:=by rw [ByteArray.toList_eq,ByteArray.toList_eq,Lx.bs_list];cases nm <;> rfl
 have hbs2:(Lx.bs nm).toList.isEmpty=nm.isEmpty:=by rw [ByteArray.toList_eq,Lx.bs_list]
 clear hall hbW e0 e1 e2 hw0 _hm
 cases q0:decide ((200:Int) < (m:Int)) with
 | true=>
  have HR:=Lh hR
  clear hR
  go_enter Tryz.func57,Tryz.ntmps57
  go_wp2_with fail
  go_ret
  exact ⟨ret_bool HR.out.symm,HW0.out⟩
 | false=>
  have HR:=Lh hR
  clear hR
  go_enter Tryz.func57,Tryz.ntmps57
  go_wp2_with fail
  go_ret
  exact ⟨ret_bool HR.out.symm,by rw [hW] at HB0;exact HB0.out⟩
end Go.Proofs.YtjonaidancomgaaGreatDoor
