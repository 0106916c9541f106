/- Parts of the proof, joined into one text: q0s. -/
import Derived.Test.YtjonaidancomgaaGreatDoorPSxChain
import Derived.BigQuiet
set_option maxHeartbeats 8000000
set_option maxRecDepth 20000
namespace Go.Proofs.YtjonaidancomgaaGreatDoor
open Go.RowKit
theorem q0n (z:Int) (hz:decide ((16:Int) < z)=false) (b:Sx.Rule→Bool) (co n d:Int) (nm:List UInt8) (ks:List Sx.Rule) (A:Option Addr) (m c:Nat) (_hm:m=ks.length) (hn:nm.length≤140737488351232) (w:World)
  (hall:∀ W,Below w.heap.size w W→aC W (w.heap.size+1) 3 #[.int .i64 z]→Calls Tryz.prog 147 #[.slice A m c,.func (.func 148) #[] #[.pointer (some ⟨w.heap.size+1,0,none⟩)]] W (ak (!ks.all b) W)) :
  Calls Tryz.prog 57 #[.agg #[.int .i64 5,.int .i64 co,.string (Lx.bs nm),.int .i64 n,.int .i64 d,.slice A m c],.int .i64 z] w (ak (!decide ((200:Int) < (m:Int)) && Sx.bQ nm co && Sx.dX n 0 12 && !decide (0 < m) && !(d != 0) && ks.all b) w):=by
 obtain ⟨R,hR⟩:∃ R:Bool,R=(!decide ((200:Int) < (m:Int)) && Sx.bQ nm co && Sx.dX n 0 12 && !decide (0 < m) && !(d != 0) && ks.all b):=⟨_,rfl⟩
 rw[←hR];have aX:=Lh hall;obtain ⟨W,hW⟩:∃ W,W=((w.alloc (.cells #[.int .i64 5,.int .i64 co,.string (Lx.bs nm),.int .i64 n,.int .i64 d,.slice A m c] 38)).alloc (.cells #[.int .i64 z] 3)).alloc (.cells #[.int .i64 0,.int .i64 co,.string (Lx.bs nm),.int .i64 n,.int .i64 d,.slice none 0 0] 38):=⟨_,rfl⟩
 have hbW:Below w.heap.size w W:=by
  rw[hW];exact ((Below.refl _ _).alloc (Nat.le_refl _) _).alloc (by simp) _ |>.alloc (by simp;omega) _
 have e0:aC W w.heap.size 38 #[.int .i64 5,.int .i64 co,.string (Lx.bs nm),.int .i64 n,.int .i64 d,.slice A m c]:=by rw [hW];exact ((aC.new w _ _).alloc _).alloc _
 have e1:aC W (w.heap.size+1) 3 #[.int .i64 z]:=by rw [hW];exact (aC.aZ _ _ (by simp)).alloc _
 have e2:aC W (w.heap.size+1+1) 38 #[.int .i64 0,.int .i64 co,.string (Lx.bs nm),.int .i64 n,.int .i64 d,.slice none 0 0]:=by rw [hW];exact aC.aZ _ _ (by simp)
 have hw0:Below w.heap.size w ((w.alloc (.cells #[.int .i64 5,.int .i64 co,.string (Lx.bs nm),.int .i64 n,.int .i64 d,.slice A m c] 38)).alloc (.cells #[.int .i64 z] 3)):=((Below.refl _ _).alloc (Nat.le_refl _) _).alloc (by simp) _;have HB0:=Lh hbW;have E0:=Lh e0;have F0:=Lh e1;have G0:=Lh e2;have HW0:=Lh hw0;have hbs:((Lx.bs nm).toList == (⟨#[]⟩:ByteArray).toList)=nm.isEmpty:=by rw [ByteArray.toList_eq,ByteArray.toList_eq,Lx.aK];cases nm <;> rfl
 have fH:(Lx.bs nm).toList.isEmpty=nm.isEmpty:=by rw [ByteArray.toList_eq,Lx.aK]
 clear hall hbW e0 e1 e2 hw0 _hm;have K1:=Lh (fun (W:World) (_:Below w.heap.size w W)=>uh nm co W hn);have K2:=Lh (fun (W:World) (_:Below w.heap.size w W)=>AJ n 0 12 W);have HR:=Lh hR;clear hR;go_enter Tryz.func57,Tryz.ntmps57;cases q0:decide ((200:Int) < (m:Int)) with
 | true=>
  have HF:Hid (R=false):=Lh (by rw [HR.out,q0];simp);go_wp2_with fail;go_ret;exact ⟨aj HF.out.symm,HW0.out⟩
 | false=>
 go_wp2_with fail;rw[←hW];refine (K1.out _ HB0.out).mono ?_;rintro e w1 ⟨rfl,hb⟩;have HB1:=Lh (HB0.out.trans (hb.mono HB0.out.size));have y:=E0.out.below hb E0.out.lt;have yl:=F0.out.below hb F0.out.lt;have yr:=G0.out.below hb G0.out.lt;have E1:=Lh y;have F1:=Lh yl;have G1:=Lh yr;obtain ⟨x0,x1,x2,x3,x4,x5,_⟩:=aQ y;obtain ⟨r0,r1,r2,r3,r4,r5,z1⟩:=aQ yr;obtain ⟨Qy,Qz,QA,QB,QC,QD⟩:=oQ yr;have v0:=yl.cell 0;simp at v0;clear hb y yl yr;cases q1:Sx.bQ nm co with
 | false=>
  have HF:Hid (R=false):=Lh (by rw [HR.out,q0,q1];simp);go_wp2_with fail;go_ret;exact ⟨aj HF.out.symm,(Below.setCell (Below.setCell (Below.setCell HB1.out (by simp <;> omega) _) (by simp <;> omega) _) (by simp <;> omega) _)⟩
 | true=>
 have Q1:=Lh q1;clear q1;go_wp2_with fail;refine (K2.out _ HB1.out).mono ?_;rintro e w2 ⟨rfl,hb⟩;have HB2:=Lh (HB1.out.trans (hb.mono HB1.out.size));have y:=E1.out.below hb E1.out.lt;have yl:=F1.out.below hb F1.out.lt;have yr:=G1.out.below hb G1.out.lt;have E2:=Lh y;have F2:=Lh yl;have G2:=Lh yr;obtain ⟨x0,x1,x2,x3,x4,x5,_⟩:=aQ y;obtain ⟨r0,r1,r2,r3,r4,r5,z2⟩:=aQ yr;obtain ⟨Qy,Qz,QA,QB,QC,QD⟩:=oQ yr;have v0:=yl.cell 0;simp at v0;clear hb y yl yr;cases q2:Sx.dX n 0 12 with
 | false=>
  have HF:Hid (R=false):=Lh (by rw [HR.out,q0,Q1.out,q2];simp);go_wp2_with fail;go_ret;exact ⟨aj HF.out.symm,(Below.setCell (Below.setCell (Below.setCell HB2.out (by simp <;> omega) _) (by simp <;> omega) _) (by simp <;> omega) _)⟩
 | true=>
 have Q2:=Lh q2;clear q2;cases q3:decide (0 < m) with
 | true=>
  have HF:Hid (R=false):=Lh (by rw [HR.out,q0,Q1.out,Q2.out,q3];simp);go_wp2_with fail;go_ret;exact ⟨aj HF.out.symm,(Below.setCell (Below.setCell (Below.setCell HB2.out (by simp <;> omega) _) (by simp <;> omega) _) (by simp <;> omega) _)⟩
 | false=>
 cases q4:(d != 0) with
 | true=>
  have HF:Hid (R=false):=Lh (by rw [HR.out,q0,Q1.out,Q2.out,q3,q4];simp);go_wp2_with fail;go_ret;exact ⟨aj HF.out.symm,(Below.setCell (Below.setCell (Below.setCell HB2.out (by simp <;> omega) _) (by simp <;> omega) _) (by simp <;> omega) _)⟩
 | false=>
 have HT:Hid (R=ks.all b):=Lh (by rw [HR.out,q0,Q1.out,Q2.out,q3,q4];simp);go_wp2_with fail;refine (aX.out _ (Below.setCell (Below.setCell (Below.setCell HB2.out (by simp <;> omega) _) (by simp <;> omega) _) (by simp <;> omega) _) (aC.far (aC.far (aC.far F2.out (by simp <;> omega) _) (by simp <;> omega) _) (by simp <;> omega) _)).mono ?_;rintro e w9 ⟨rfl,hb⟩
 have AO:Hid (Below w.heap.size w w9):=Lh (Below.trans (Below.setCell (Below.setCell (Below.setCell HB2.out (by simp <;> omega) _) (by simp <;> omega) _) (by simp <;> omega) _) (hb.mono (Below.setCell (Below.setCell (Below.setCell HB2.out (by simp <;> omega) _) (by simp <;> omega) _) (by simp <;> omega) _).size));clear hb;go_wp2_with fail;go_ret;exact ⟨aj (by simp [HT.out]),AO.out⟩
theorem q0o (z:Int) (hz:decide ((16:Int) < z)=false) (b:Sx.Rule→Bool) (co n d:Int) (nm:List UInt8) (ks:List Sx.Rule) (A:Option Addr) (m c:Nat) (_hm:m=ks.length) (hn:nm.length≤140737488351232) (w:World)
  (hall:∀ W,Below w.heap.size w W→aC W (w.heap.size+1) 3 #[.int .i64 z]→Calls Tryz.prog 147 #[.slice A m c,.func (.func 148) #[] #[.pointer (some ⟨w.heap.size+1,0,none⟩)]] W (ak (!ks.all b) W)) :
  Calls Tryz.prog 57 #[.agg #[.int .i64 6,.int .i64 co,.string (Lx.bs nm),.int .i64 n,.int .i64 d,.slice A m c],.int .i64 z] w (ak (!decide ((200:Int) < (m:Int)) && Sx.bQ nm co && Sx.dX n 1 100 && !decide (0 < m) && !(d != 0) && ks.all b) w):=by
 obtain ⟨R,hR⟩:∃ R:Bool,R=(!decide ((200:Int) < (m:Int)) && Sx.bQ nm co && Sx.dX n 1 100 && !decide (0 < m) && !(d != 0) && ks.all b):=⟨_,rfl⟩
 rw[←hR];have aX:=Lh hall;obtain ⟨W,hW⟩:∃ W,W=((w.alloc (.cells #[.int .i64 6,.int .i64 co,.string (Lx.bs nm),.int .i64 n,.int .i64 d,.slice A m c] 38)).alloc (.cells #[.int .i64 z] 3)).alloc (.cells #[.int .i64 0,.int .i64 co,.string (Lx.bs nm),.int .i64 n,.int .i64 d,.slice none 0 0] 38):=⟨_,rfl⟩
 have hbW:Below w.heap.size w W:=by
  rw[hW];exact ((Below.refl _ _).alloc (Nat.le_refl _) _).alloc (by simp) _ |>.alloc (by simp;omega) _
 have e0:aC W w.heap.size 38 #[.int .i64 6,.int .i64 co,.string (Lx.bs nm),.int .i64 n,.int .i64 d,.slice A m c]:=by rw [hW];exact ((aC.new w _ _).alloc _).alloc _
 have e1:aC W (w.heap.size+1) 3 #[.int .i64 z]:=by rw [hW];exact (aC.aZ _ _ (by simp)).alloc _
 have e2:aC W (w.heap.size+1+1) 38 #[.int .i64 0,.int .i64 co,.string (Lx.bs nm),.int .i64 n,.int .i64 d,.slice none 0 0]:=by rw [hW];exact aC.aZ _ _ (by simp)
 have hw0:Below w.heap.size w ((w.alloc (.cells #[.int .i64 6,.int .i64 co,.string (Lx.bs nm),.int .i64 n,.int .i64 d,.slice A m c] 38)).alloc (.cells #[.int .i64 z] 3)):=((Below.refl _ _).alloc (Nat.le_refl _) _).alloc (by simp) _;have HB0:=Lh hbW;have E0:=Lh e0;have F0:=Lh e1;have G0:=Lh e2;have HW0:=Lh hw0;have hbs:((Lx.bs nm).toList == (⟨#[]⟩:ByteArray).toList)=nm.isEmpty:=by rw [ByteArray.toList_eq,ByteArray.toList_eq,Lx.aK];cases nm <;> rfl
 have fH:(Lx.bs nm).toList.isEmpty=nm.isEmpty:=by rw [ByteArray.toList_eq,Lx.aK]
 clear hall hbW e0 e1 e2 hw0 _hm;have K1:=Lh (fun (W:World) (_:Below w.heap.size w W)=>uh nm co W hn);have K2:=Lh (fun (W:World) (_:Below w.heap.size w W)=>AJ n 1 100 W);have HR:=Lh hR;clear hR;go_enter Tryz.func57,Tryz.ntmps57;cases q0:decide ((200:Int) < (m:Int)) with
 | true=>
  have HF:Hid (R=false):=Lh (by rw [HR.out,q0];simp);go_wp2_with fail;go_ret;exact ⟨aj HF.out.symm,HW0.out⟩
 | false=>
 go_wp2_with fail;rw[←hW];refine (K1.out _ HB0.out).mono ?_;rintro e w1 ⟨rfl,hb⟩;have HB1:=Lh (HB0.out.trans (hb.mono HB0.out.size));have y:=E0.out.below hb E0.out.lt;have yl:=F0.out.below hb F0.out.lt;have yr:=G0.out.below hb G0.out.lt;have E1:=Lh y;have F1:=Lh yl;have G1:=Lh yr;obtain ⟨x0,x1,x2,x3,x4,x5,_⟩:=aQ y;obtain ⟨r0,r1,r2,r3,r4,r5,z1⟩:=aQ yr;obtain ⟨Qy,Qz,QA,QB,QC,QD⟩:=oQ yr;have v0:=yl.cell 0;simp at v0;clear hb y yl yr;cases q1:Sx.bQ nm co with
 | false=>
  have HF:Hid (R=false):=Lh (by rw [HR.out,q0,q1];simp);go_wp2_with fail;go_ret;exact ⟨aj HF.out.symm,(Below.setCell (Below.setCell (Below.setCell HB1.out (by simp <;> omega) _) (by simp <;> omega) _) (by simp <;> omega) _)⟩
 | true=>
 have Q1:=Lh q1;clear q1;go_wp2_with fail;refine (K2.out _ HB1.out).mono ?_;rintro e w2 ⟨rfl,hb⟩;have HB2:=Lh (HB1.out.trans (hb.mono HB1.out.size));have y:=E1.out.below hb E1.out.lt;have yl:=F1.out.below hb F1.out.lt;have yr:=G1.out.below hb G1.out.lt;have E2:=Lh y;have F2:=Lh yl;have G2:=Lh yr;obtain ⟨x0,x1,x2,x3,x4,x5,_⟩:=aQ y;obtain ⟨r0,r1,r2,r3,r4,r5,z2⟩:=aQ yr;obtain ⟨Qy,Qz,QA,QB,QC,QD⟩:=oQ yr;have v0:=yl.cell 0;simp at v0;clear hb y yl yr;cases q2:Sx.dX n 1 100 with
 | false=>
  have HF:Hid (R=false):=Lh (by rw [HR.out,q0,Q1.out,q2];simp);go_wp2_with fail;go_ret;exact ⟨aj HF.out.symm,(Below.setCell (Below.setCell (Below.setCell HB2.out (by simp <;> omega) _) (by simp <;> omega) _) (by simp <;> omega) _)⟩
 | true=>
 have Q2:=Lh q2;clear q2;cases q3:decide (0 < m) with
 | true=>
  have HF:Hid (R=false):=Lh (by rw [HR.out,q0,Q1.out,Q2.out,q3];simp);go_wp2_with fail;go_ret;exact ⟨aj HF.out.symm,(Below.setCell (Below.setCell (Below.setCell HB2.out (by simp <;> omega) _) (by simp <;> omega) _) (by simp <;> omega) _)⟩
 | false=>
 cases q4:(d != 0) with
 | true=>
  have HF:Hid (R=false):=Lh (by rw [HR.out,q0,Q1.out,Q2.out,q3,q4];simp);go_wp2_with fail;go_ret;exact ⟨aj HF.out.symm,(Below.setCell (Below.setCell (Below.setCell HB2.out (by simp <;> omega) _) (by simp <;> omega) _) (by simp <;> omega) _)⟩
 | false=>
 have HT:Hid (R=ks.all b):=Lh (by rw [HR.out,q0,Q1.out,Q2.out,q3,q4];simp);go_wp2_with fail;refine (aX.out _ (Below.setCell (Below.setCell (Below.setCell HB2.out (by simp <;> omega) _) (by simp <;> omega) _) (by simp <;> omega) _) (aC.far (aC.far (aC.far F2.out (by simp <;> omega) _) (by simp <;> omega) _) (by simp <;> omega) _)).mono ?_;rintro e w9 ⟨rfl,hb⟩
 have AO:Hid (Below w.heap.size w w9):=Lh (Below.trans (Below.setCell (Below.setCell (Below.setCell HB2.out (by simp <;> omega) _) (by simp <;> omega) _) (by simp <;> omega) _) (hb.mono (Below.setCell (Below.setCell (Below.setCell HB2.out (by simp <;> omega) _) (by simp <;> omega) _) (by simp <;> omega) _).size));clear hb;go_wp2_with fail;go_ret;exact ⟨aj (by simp [HT.out]),AO.out⟩
theorem q0p (z:Int) (hz:decide ((16:Int) < z)=false) (b:Sx.Rule→Bool) (co n d:Int) (nm:List UInt8) (ks:List Sx.Rule) (A:Option Addr) (m c:Nat) (_hm:m=ks.length) (hn:nm.length≤140737488351232) (w:World)
  (hall:∀ W,Below w.heap.size w W→aC W (w.heap.size+1) 3 #[.int .i64 z]→Calls Tryz.prog 147 #[.slice A m c,.func (.func 148) #[] #[.pointer (some ⟨w.heap.size+1,0,none⟩)]] W (ak (!ks.all b) W)) :
  Calls Tryz.prog 57 #[.agg #[.int .i64 7,.int .i64 co,.string (Lx.bs nm),.int .i64 n,.int .i64 d,.slice A m c],.int .i64 z] w (ak (!decide ((200:Int) < (m:Int)) && Sx.dX n 0 10000 && !decide (0 < m) && nm.isEmpty && !(co != 0) && !(d != 0) && ks.all b) w):=by
 obtain ⟨R,hR⟩:∃ R:Bool,R=(!decide ((200:Int) < (m:Int)) && Sx.dX n 0 10000 && !decide (0 < m) && nm.isEmpty && !(co != 0) && !(d != 0) && ks.all b):=⟨_,rfl⟩
 rw[←hR];have aX:=Lh hall;obtain ⟨W,hW⟩:∃ W,W=((w.alloc (.cells #[.int .i64 7,.int .i64 co,.string (Lx.bs nm),.int .i64 n,.int .i64 d,.slice A m c] 38)).alloc (.cells #[.int .i64 z] 3)).alloc (.cells #[.int .i64 0,.int .i64 co,.string (Lx.bs nm),.int .i64 n,.int .i64 d,.slice none 0 0] 38):=⟨_,rfl⟩
 have hbW:Below w.heap.size w W:=by
  rw[hW];exact ((Below.refl _ _).alloc (Nat.le_refl _) _).alloc (by simp) _ |>.alloc (by simp;omega) _
 have e0:aC W w.heap.size 38 #[.int .i64 7,.int .i64 co,.string (Lx.bs nm),.int .i64 n,.int .i64 d,.slice A m c]:=by rw [hW];exact ((aC.new w _ _).alloc _).alloc _
 have e1:aC W (w.heap.size+1) 3 #[.int .i64 z]:=by rw [hW];exact (aC.aZ _ _ (by simp)).alloc _
 have e2:aC W (w.heap.size+1+1) 38 #[.int .i64 0,.int .i64 co,.string (Lx.bs nm),.int .i64 n,.int .i64 d,.slice none 0 0]:=by rw [hW];exact aC.aZ _ _ (by simp)
 have hw0:Below w.heap.size w ((w.alloc (.cells #[.int .i64 7,.int .i64 co,.string (Lx.bs nm),.int .i64 n,.int .i64 d,.slice A m c] 38)).alloc (.cells #[.int .i64 z] 3)):=((Below.refl _ _).alloc (Nat.le_refl _) _).alloc (by simp) _;have HB0:=Lh hbW;have E0:=Lh e0;have F0:=Lh e1;have G0:=Lh e2;have HW0:=Lh hw0;have hbs:((Lx.bs nm).toList == (⟨#[]⟩:ByteArray).toList)=nm.isEmpty:=by rw [ByteArray.toList_eq,ByteArray.toList_eq,Lx.aK];cases nm <;> rfl
 have fH:(Lx.bs nm).toList.isEmpty=nm.isEmpty:=by rw [ByteArray.toList_eq,Lx.aK]
 clear hall hbW e0 e1 e2 hw0 _hm;have K1:=Lh (fun (W:World) (_:Below w.heap.size w W)=>AJ n 0 10000 W);have HR:=Lh hR;clear hR;go_enter Tryz.func57,Tryz.ntmps57;cases q0:decide ((200:Int) < (m:Int)) with
 | true=>
  have HF:Hid (R=false):=Lh (by rw [HR.out,q0];simp);go_wp2_with fail;go_ret;exact ⟨aj HF.out.symm,HW0.out⟩
 | false=>
 go_wp2_with fail;rw[←hW];refine (K1.out _ HB0.out).mono ?_;rintro e w1 ⟨rfl,hb⟩;have HB1:=Lh (HB0.out.trans (hb.mono HB0.out.size));have y:=E0.out.below hb E0.out.lt;have yl:=F0.out.below hb F0.out.lt;have yr:=G0.out.below hb G0.out.lt;have E1:=Lh y;have F1:=Lh yl;have G1:=Lh yr;obtain ⟨x0,x1,x2,x3,x4,x5,_⟩:=aQ y;obtain ⟨r0,r1,r2,r3,r4,r5,z1⟩:=aQ yr;obtain ⟨Qy,Qz,QA,QB,QC,QD⟩:=oQ yr;have v0:=yl.cell 0;simp at v0;clear hb y yl yr;cases q1:Sx.dX n 0 10000 with
 | false=>
  have HF:Hid (R=false):=Lh (by rw [HR.out,q0,q1];simp);go_wp2_with fail;go_ret;exact ⟨aj HF.out.symm,(Below.setCell HB1.out (by simp <;> omega) _)⟩
 | true=>
 have Q1:=Lh q1;clear q1;cases q2:decide (0 < m) with
 | true=>
  have HF:Hid (R=false):=Lh (by rw [HR.out,q0,Q1.out,q2];simp);go_wp2_with fail;go_ret;exact ⟨aj HF.out.symm,(Below.setCell HB1.out (by simp <;> omega) _)⟩
 | false=>
 cases q3:nm.isEmpty with
 | false=>
  have HF:Hid (R=false):=Lh (by rw [HR.out,q0,Q1.out,q2,q3];simp);rw[q3] at hbs fH;go_wp2_with fail;go_ret;exact ⟨aj HF.out.symm,(Below.setCell HB1.out (by simp <;> omega) _)⟩
 | true=>
 rw[q3] at hbs fH;cases q4:(co != 0) with
 | true=>
  have HF:Hid (R=false):=Lh (by rw [HR.out,q0,Q1.out,q2,q3,q4];simp);go_wp2_with fail;go_ret;exact ⟨aj HF.out.symm,(Below.setCell HB1.out (by simp <;> omega) _)⟩
 | false=>
 cases q5:(d != 0) with
 | true=>
  have HF:Hid (R=false):=Lh (by rw [HR.out,q0,Q1.out,q2,q3,q4,q5];simp);go_wp2_with fail;go_ret;exact ⟨aj HF.out.symm,(Below.setCell HB1.out (by simp <;> omega) _)⟩
 | false=>
 have HT:Hid (R=ks.all b):=Lh (by rw [HR.out,q0,Q1.out,q2,q3,q4,q5];simp);go_wp2_with fail;refine (aX.out _ (Below.setCell HB1.out (by simp <;> omega) _) (aC.far F1.out (by simp <;> omega) _)).mono ?_;rintro e w9 ⟨rfl,hb⟩;have AO:Hid (Below w.heap.size w w9):=Lh (Below.trans (Below.setCell HB1.out (by simp <;> omega) _) (hb.mono (Below.setCell HB1.out (by simp <;> omega) _).size));clear hb;go_wp2_with fail;go_ret;exact ⟨aj (by simp [HT.out]),AO.out⟩
theorem q0q (z:Int) (hz:decide ((16:Int) < z)=false) (b:Sx.Rule→Bool) (co n d:Int) (nm:List UInt8) (ks:List Sx.Rule) (A:Option Addr) (m c:Nat) (_hm:m=ks.length) (hn:nm.length≤140737488351232) (w:World)
  (hall:∀ W,Below w.heap.size w W→aC W (w.heap.size+1) 3 #[.int .i64 z]→Calls Tryz.prog 147 #[.slice A m c,.func (.func 148) #[] #[.pointer (some ⟨w.heap.size+1,0,none⟩)]] W (ak (!ks.all b) W)) :
  Calls Tryz.prog 57 #[.agg #[.int .i64 8,.int .i64 co,.string (Lx.bs nm),.int .i64 n,.int .i64 d,.slice A m c],.int .i64 z] w (ak (!decide ((200:Int) < (m:Int)) && Sx.bL.fine ⟨n,d⟩ && !decide (0 < m) && nm.isEmpty && !(co != 0) && ks.all b) w):=by
 obtain ⟨R,hR⟩:∃ R:Bool,R=(!decide ((200:Int) < (m:Int)) && Sx.bL.fine ⟨n,d⟩ && !decide (0 < m) && nm.isEmpty && !(co != 0) && ks.all b):=⟨_,rfl⟩
 rw[←hR];have aX:=Lh hall;obtain ⟨W,hW⟩:∃ W,W=((w.alloc (.cells #[.int .i64 8,.int .i64 co,.string (Lx.bs nm),.int .i64 n,.int .i64 d,.slice A m c] 38)).alloc (.cells #[.int .i64 z] 3)).alloc (.cells #[.int .i64 0,.int .i64 co,.string (Lx.bs nm),.int .i64 n,.int .i64 d,.slice none 0 0] 38):=⟨_,rfl⟩
 have hbW:Below w.heap.size w W:=by
  rw[hW];exact ((Below.refl _ _).alloc (Nat.le_refl _) _).alloc (by simp) _ |>.alloc (by simp;omega) _
 have e0:aC W w.heap.size 38 #[.int .i64 8,.int .i64 co,.string (Lx.bs nm),.int .i64 n,.int .i64 d,.slice A m c]:=by rw [hW];exact ((aC.new w _ _).alloc _).alloc _
 have e1:aC W (w.heap.size+1) 3 #[.int .i64 z]:=by rw [hW];exact (aC.aZ _ _ (by simp)).alloc _
 have e2:aC W (w.heap.size+1+1) 38 #[.int .i64 0,.int .i64 co,.string (Lx.bs nm),.int .i64 n,.int .i64 d,.slice none 0 0]:=by rw [hW];exact aC.aZ _ _ (by simp)
 have hw0:Below w.heap.size w ((w.alloc (.cells #[.int .i64 8,.int .i64 co,.string (Lx.bs nm),.int .i64 n,.int .i64 d,.slice A m c] 38)).alloc (.cells #[.int .i64 z] 3)):=((Below.refl _ _).alloc (Nat.le_refl _) _).alloc (by simp) _;have HB0:=Lh hbW;have E0:=Lh e0;have F0:=Lh e1;have G0:=Lh e2;have HW0:=Lh hw0;have hbs:((Lx.bs nm).toList == (⟨#[]⟩:ByteArray).toList)=nm.isEmpty:=by rw [ByteArray.toList_eq,ByteArray.toList_eq,Lx.aK];cases nm <;> rfl
 have fH:(Lx.bs nm).toList.isEmpty=nm.isEmpty:=by rw [ByteArray.toList_eq,Lx.aK]
 clear hall hbW e0 e1 e2 hw0 _hm;have K1:=Lh (fun (W:World) (_:Below w.heap.size w W)=>Ka n d W);have HR:=Lh hR;clear hR;go_enter Tryz.func57,Tryz.ntmps57;cases q0:decide ((200:Int) < (m:Int)) with
 | true=>
  have HF:Hid (R=false):=Lh (by rw [HR.out,q0];simp);go_wp2_with fail;go_ret;exact ⟨aj HF.out.symm,HW0.out⟩
 | false=>
 go_wp2_with fail;rw[←hW];refine (K1.out _ HB0.out).mono ?_;rintro e w1 ⟨rfl,hb⟩;have HB1:=Lh (HB0.out.trans (hb.mono HB0.out.size));have y:=E0.out.below hb E0.out.lt;have yl:=F0.out.below hb F0.out.lt;have yr:=G0.out.below hb G0.out.lt;have E1:=Lh y;have F1:=Lh yl;have G1:=Lh yr;obtain ⟨x0,x1,x2,x3,x4,x5,_⟩:=aQ y;obtain ⟨r0,r1,r2,r3,r4,r5,z1⟩:=aQ yr;obtain ⟨Qy,Qz,QA,QB,QC,QD⟩:=oQ yr;have v0:=yl.cell 0;simp at v0;clear hb y yl yr;cases q1:Sx.bL.fine ⟨n,d⟩ with
 | false=>
  have HF:Hid (R=false):=Lh (by rw [HR.out,q0,q1];simp);go_wp2_with fail;go_ret;exact ⟨aj HF.out.symm,(Below.setCell (Below.setCell HB1.out (by simp <;> omega) _) (by simp <;> omega) _)⟩
 | true=>
 have Q1:=Lh q1;clear q1;cases q2:decide (0 < m) with
 | true=>
  have HF:Hid (R=false):=Lh (by rw [HR.out,q0,Q1.out,q2];simp);go_wp2_with fail;go_ret;exact ⟨aj HF.out.symm,(Below.setCell (Below.setCell HB1.out (by simp <;> omega) _) (by simp <;> omega) _)⟩
 | false=>
 cases q3:nm.isEmpty with
 | false=>
  have HF:Hid (R=false):=Lh (by rw [HR.out,q0,Q1.out,q2,q3];simp);rw[q3] at hbs fH;go_wp2_with fail;go_ret;exact ⟨aj HF.out.symm,(Below.setCell (Below.setCell HB1.out (by simp <;> omega) _) (by simp <;> omega) _)⟩
 | true=>
 rw[q3] at hbs fH;cases q4:(co != 0) with
 | true=>
  have HF:Hid (R=false):=Lh (by rw [HR.out,q0,Q1.out,q2,q3,q4];simp);go_wp2_with fail;go_ret;exact ⟨aj HF.out.symm,(Below.setCell (Below.setCell HB1.out (by simp <;> omega) _) (by simp <;> omega) _)⟩
 | false=>
 have HT:Hid (R=ks.all b):=Lh (by rw [HR.out,q0,Q1.out,q2,q3,q4];simp);go_wp2_with fail;refine (aX.out _ (Below.setCell (Below.setCell HB1.out (by simp <;> omega) _) (by simp <;> omega) _) (aC.far (aC.far F1.out (by simp <;> omega) _) (by simp <;> omega) _)).mono ?_;rintro e w9 ⟨rfl,hb⟩;have AO:Hid (Below w.heap.size w w9):=Lh (Below.trans (Below.setCell (Below.setCell HB1.out (by simp <;> omega) _) (by simp <;> omega) _) (hb.mono (Below.setCell (Below.setCell HB1.out (by simp <;> omega) _) (by simp <;> omega) _).size));clear hb;go_wp2_with fail;go_ret
 exact ⟨aj (by simp [HT.out]),AO.out⟩
theorem q0r (z:Int) (hz:decide ((16:Int) < z)=false) (b:Sx.Rule→Bool) (co n d:Int) (nm:List UInt8) (ks:List Sx.Rule) (A:Option Addr) (m c:Nat) (_hm:m=ks.length) (hn:nm.length≤140737488351232) (w:World)
  (hall:∀ W,Below w.heap.size w W→aC W (w.heap.size+1) 3 #[.int .i64 z]→Calls Tryz.prog 147 #[.slice A m c,.func (.func 148) #[] #[.pointer (some ⟨w.heap.size+1,0,none⟩)]] W (ak (!ks.all b) W)) :
  Calls Tryz.prog 57 #[.agg #[.int .i64 9,.int .i64 co,.string (Lx.bs nm),.int .i64 n,.int .i64 d,.slice A m c],.int .i64 z] w (ak (!decide ((200:Int) < (m:Int)) && Sx.bQ nm co && !decide (0 < m) && !(n != 0) && !(d != 0) && ks.all b) w):=by
 obtain ⟨R,hR⟩:∃ R:Bool,R=(!decide ((200:Int) < (m:Int)) && Sx.bQ nm co && !decide (0 < m) && !(n != 0) && !(d != 0) && ks.all b):=⟨_,rfl⟩
 rw[←hR];have aX:=Lh hall;obtain ⟨W,hW⟩:∃ W,W=((w.alloc (.cells #[.int .i64 9,.int .i64 co,.string (Lx.bs nm),.int .i64 n,.int .i64 d,.slice A m c] 38)).alloc (.cells #[.int .i64 z] 3)).alloc (.cells #[.int .i64 0,.int .i64 co,.string (Lx.bs nm),.int .i64 n,.int .i64 d,.slice none 0 0] 38):=⟨_,rfl⟩
 have hbW:Below w.heap.size w W:=by
  rw[hW];exact ((Below.refl _ _).alloc (Nat.le_refl _) _).alloc (by simp) _ |>.alloc (by simp;omega) _
 have e0:aC W w.heap.size 38 #[.int .i64 9,.int .i64 co,.string (Lx.bs nm),.int .i64 n,.int .i64 d,.slice A m c]:=by rw [hW];exact ((aC.new w _ _).alloc _).alloc _
 have e1:aC W (w.heap.size+1) 3 #[.int .i64 z]:=by rw [hW];exact (aC.aZ _ _ (by simp)).alloc _
 have e2:aC W (w.heap.size+1+1) 38 #[.int .i64 0,.int .i64 co,.string (Lx.bs nm),.int .i64 n,.int .i64 d,.slice none 0 0]:=by rw [hW];exact aC.aZ _ _ (by simp)
 have hw0:Below w.heap.size w ((w.alloc (.cells #[.int .i64 9,.int .i64 co,.string (Lx.bs nm),.int .i64 n,.int .i64 d,.slice A m c] 38)).alloc (.cells #[.int .i64 z] 3)):=((Below.refl _ _).alloc (Nat.le_refl _) _).alloc (by simp) _;have HB0:=Lh hbW;have E0:=Lh e0;have F0:=Lh e1;have G0:=Lh e2;have HW0:=Lh hw0;have hbs:((Lx.bs nm).toList == (⟨#[]⟩:ByteArray).toList)=nm.isEmpty:=by rw [ByteArray.toList_eq,ByteArray.toList_eq,Lx.aK];cases nm <;> rfl
 have fH:(Lx.bs nm).toList.isEmpty=nm.isEmpty:=by rw [ByteArray.toList_eq,Lx.aK]
 clear hall hbW e0 e1 e2 hw0 _hm;have K1:=Lh (fun (W:World) (_:Below w.heap.size w W)=>uh nm co W hn);have HR:=Lh hR;clear hR;go_enter Tryz.func57,Tryz.ntmps57;cases q0:decide ((200:Int) < (m:Int)) with
 | true=>
  have HF:Hid (R=false):=Lh (by rw [HR.out,q0];simp);go_wp2_with fail;go_ret;exact ⟨aj HF.out.symm,HW0.out⟩
 | false=>
 go_wp2_with fail;rw[←hW];refine (K1.out _ HB0.out).mono ?_;rintro e w1 ⟨rfl,hb⟩;have HB1:=Lh (HB0.out.trans (hb.mono HB0.out.size));have y:=E0.out.below hb E0.out.lt;have yl:=F0.out.below hb F0.out.lt;have yr:=G0.out.below hb G0.out.lt;have E1:=Lh y;have F1:=Lh yl;have G1:=Lh yr;obtain ⟨x0,x1,x2,x3,x4,x5,_⟩:=aQ y;obtain ⟨r0,r1,r2,r3,r4,r5,z1⟩:=aQ yr;obtain ⟨Qy,Qz,QA,QB,QC,QD⟩:=oQ yr;have v0:=yl.cell 0;simp at v0;clear hb y yl yr;cases q1:Sx.bQ nm co with
 | false=>
  have HF:Hid (R=false):=Lh (by rw [HR.out,q0,q1];simp);go_wp2_with fail;go_ret;exact ⟨aj HF.out.symm,(Below.setCell (Below.setCell HB1.out (by simp <;> omega) _) (by simp <;> omega) _)⟩
 | true=>
 have Q1:=Lh q1;clear q1;cases q2:decide (0 < m) with
 | true=>
  have HF:Hid (R=false):=Lh (by rw [HR.out,q0,Q1.out,q2];simp);go_wp2_with fail;go_ret;exact ⟨aj HF.out.symm,(Below.setCell (Below.setCell HB1.out (by simp <;> omega) _) (by simp <;> omega) _)⟩
 | false=>
 cases q3:(n != 0) with
 | true=>
  have HF:Hid (R=false):=Lh (by rw [HR.out,q0,Q1.out,q2,q3];simp);go_wp2_with fail;go_ret;exact ⟨aj HF.out.symm,(Below.setCell (Below.setCell HB1.out (by simp <;> omega) _) (by simp <;> omega) _)⟩
 | false=>
 cases q4:(d != 0) with
 | true=>
  have HF:Hid (R=false):=Lh (by rw [HR.out,q0,Q1.out,q2,q3,q4];simp);go_wp2_with fail;go_ret;exact ⟨aj HF.out.symm,(Below.setCell (Below.setCell HB1.out (by simp <;> omega) _) (by simp <;> omega) _)⟩
 | false=>
 have HT:Hid (R=ks.all b):=Lh (by rw [HR.out,q0,Q1.out,q2,q3,q4];simp);go_wp2_with fail;refine (aX.out _ (Below.setCell (Below.setCell HB1.out (by simp <;> omega) _) (by simp <;> omega) _) (aC.far (aC.far F1.out (by simp <;> omega) _) (by simp <;> omega) _)).mono ?_;rintro e w9 ⟨rfl,hb⟩;have AO:Hid (Below w.heap.size w w9):=Lh (Below.trans (Below.setCell (Below.setCell HB1.out (by simp <;> omega) _) (by simp <;> omega) _) (hb.mono (Below.setCell (Below.setCell HB1.out (by simp <;> omega) _) (by simp <;> omega) _).size));clear hb;go_wp2_with fail;go_ret
 exact ⟨aj (by simp [HT.out]),AO.out⟩
end Go.Proofs.YtjonaidancomgaaGreatDoor
