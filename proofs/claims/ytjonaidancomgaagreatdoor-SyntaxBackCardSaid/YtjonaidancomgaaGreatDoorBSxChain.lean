/- Parts of the proof, joined into one text: SxChain. -/
import Derived.Test.YtjonaidancomgaaGreatDoorBSxAll
import Derived.Test.YtjonaidancomgaaGreatDoorBSxPrI
import Derived.Test.YtjonaidancomgaaGreatDoorBSxParB

namespace Go.Proofs.YtjonaidancomgaaGreatDoor
open Go.RowKit

set_option maxRecDepth 20000 in
set_option maxHeartbeats 4000000 in
theorem okPair0 (a b:List UInt8) (x y:Int) (ha:a.length≤140737488351232) (hb:b.length≤140737488351232) (w:World) :
  Calls Tryz.prog 115 #[.agg #[.string (Lx.bs a),.string (Lx.bs b),.int .i64 x,.int .i64 y]] w (BoolPost (Sx.refOk a x && Sx.refOk b y) w):=by
 obtain ⟨R,hR⟩:∃ R:Bool,R=(Sx.refOk a x && Sx.refOk b y):=⟨_,rfl⟩
 rw[←hR]
 have hb0:Below w.heap.size w (w.alloc (.cells #[.string (Lx.bs a),.string (Lx.bs b),.int .i64 x,.int .i64 y] 71)):=(Below.refl _ _).alloc (Nat.le_refl _) _
 have e0:Blk (w.alloc (.cells #[.string (Lx.bs a),.string (Lx.bs b),.int .i64 x,.int .i64 y] 71)) w.heap.size 71 #[.string (Lx.bs a),.string (Lx.bs b),.int .i64 x,.int .i64 y]:=Blk.new _ _ _
 have HB0:=Lh hb0
 have E0:=Lh e0
 clear hb0 e0
 have K0:=Lh (fun (W:World) (_:Below w.heap.size w W)=>sRefOk a x W ha)
 have K1:=Lh (fun (W:World) (_:Below w.heap.size w W)=>sRefOk b y W hb)
 cases q0:Sx.refOk a x with
 | false=>
  rw[q0] at K0 hR
  have HR:Hid (R=false):=Lh (by rw [hR];simp)
  clear hR
  go_enter Tryz.func115,Tryz.ntmps115
  go_wp2_with fail
  refine (K0.out _ HB0.out).mono ?_
  rintro e w1 ⟨rfl,hb⟩
  have HB1:=Lh (HB0.out.trans (hb.mono HB0.out.size))
  have y:=E0.out.below hb E0.out.lt
  have E1:=Lh y
  obtain ⟨x0,x1,x2,x3,z1⟩:=cells4 y
  clear hb y
  go_wp2_with fail
  go_ret
  exact ⟨ret_bool HR.out.symm,HB1.out⟩
 | true=>
 rw[q0] at K0 hR
 have HR:Hid (R=(Sx.refOk b y)):=Lh (by rw [hR];simp)
 clear hR
 go_enter Tryz.func115,Tryz.ntmps115
 go_wp2_with fail
 refine (K0.out _ HB0.out).mono ?_
 rintro e w1 ⟨rfl,hb⟩
 have HB1:=Lh (HB0.out.trans (hb.mono HB0.out.size))
 have y:=E0.out.below hb E0.out.lt
 have E1:=Lh y
 obtain ⟨x0,x1,x2,x3,z1⟩:=cells4 y
 clear hb y
 go_wp2_with fail
 refine (K1.out _ HB1.out).mono ?_
 rintro e w2 ⟨rfl,hb⟩
 have HB2:=Lh (HB1.out.trans (hb.mono HB1.out.size))
 have y:=E1.out.below hb E1.out.lt
 have E2:=Lh y
 obtain ⟨x0,x1,x2,x3,z2⟩:=cells4 y
 clear hb y
 go_wp2_with fail
 go_ret
 exact ⟨ret_bool HR.out.symm,HB2.out⟩
set_option maxRecDepth 20000 in
set_option maxHeartbeats 4000000 in
theorem okFee0 (nm:List UInt8) (cr:Int) (hn:nm.length≤140737488351232) (w:World) :
  Calls Tryz.prog 117 #[.agg #[.string (Lx.bs nm),.int .i64 cr]] w (BoolPost (Lx.isName nm && Sx.inB cr 0 10000) w):=by
 obtain ⟨R,hR⟩:∃ R:Bool,R=(Lx.isName nm && Sx.inB cr 0 10000):=⟨_,rfl⟩
 rw[←hR]
 have hb0:Below w.heap.size w (w.alloc (.cells #[.string (Lx.bs nm),.int .i64 cr] 86)):=(Below.refl _ _).alloc (Nat.le_refl _) _
 have e0:Blk (w.alloc (.cells #[.string (Lx.bs nm),.int .i64 cr] 86)) w.heap.size 86 #[.string (Lx.bs nm),.int .i64 cr]:=Blk.new _ _ _
 have HB0:=Lh hb0
 have E0:=Lh e0
 clear hb0 e0
 have K0:=Lh (fun (W:World) (_:Below w.heap.size w W)=>sNameB nm W hn)
 have K1:=Lh (fun (W:World) (_:Below w.heap.size w W)=>sIn cr 0 10000 W)
 cases q0:Lx.isName nm with
 | false=>
  rw[q0] at K0 hR
  have HR:Hid (R=false):=Lh (by rw [hR];simp)
  clear hR
  go_enter Tryz.func117,Tryz.ntmps117
  go_wp2_with fail
  refine (K0.out _ HB0.out).mono ?_
  rintro e w1 ⟨rfl,hb⟩
  have HB1:=Lh (HB0.out.trans (hb.mono HB0.out.size))
  have y:=E0.out.below hb E0.out.lt
  have E1:=Lh y
  obtain ⟨x0,x1,z1⟩:=cells2 y
  clear hb y
  go_wp2_with fail
  go_ret
  exact ⟨ret_bool HR.out.symm,HB1.out⟩
 | true=>
 rw[q0] at K0 hR
 have HR:Hid (R=(Sx.inB cr 0 10000)):=Lh (by rw [hR];simp)
 clear hR
 go_enter Tryz.func117,Tryz.ntmps117
 go_wp2_with fail
 refine (K0.out _ HB0.out).mono ?_
 rintro e w1 ⟨rfl,hb⟩
 have HB1:=Lh (HB0.out.trans (hb.mono HB0.out.size))
 have y:=E0.out.below hb E0.out.lt
 have E1:=Lh y
 obtain ⟨x0,x1,z1⟩:=cells2 y
 clear hb y
 go_wp2_with fail
 refine (K1.out _ HB1.out).mono ?_
 rintro e w2 ⟨rfl,hb⟩
 have HB2:=Lh (HB1.out.trans (hb.mono HB1.out.size))
 have y:=E1.out.below hb E1.out.lt
 have E2:=Lh y
 obtain ⟨x0,x1,z2⟩:=cells2 y
 clear hb y
 go_wp2_with fail
 go_ret
 exact ⟨ret_bool HR.out.symm,HB2.out⟩
set_option maxRecDepth 20000 in
set_option maxHeartbeats 4000000 in
theorem okClause0 (k wn a u:Int) (w:World) :
  Calls Tryz.prog 120 #[.agg #[.int .i64 k,.int .i64 wn,.int .i64 a,.int .i64 u]] w (BoolPost (Sx.inB k 1 5 && Sx.inB wn 0 2 && Sx.inB a 1 3 && Sx.inB u 0 12) w):=by
 obtain ⟨R,hR⟩:∃ R:Bool,R=(Sx.inB k 1 5 && Sx.inB wn 0 2 && Sx.inB a 1 3 && Sx.inB u 0 12):=⟨_,rfl⟩
 rw[←hR]
 have hb0:Below w.heap.size w (w.alloc (.cells #[.int .i64 k,.int .i64 wn,.int .i64 a,.int .i64 u] 90)):=(Below.refl _ _).alloc (Nat.le_refl _) _
 have e0:Blk (w.alloc (.cells #[.int .i64 k,.int .i64 wn,.int .i64 a,.int .i64 u] 90)) w.heap.size 90 #[.int .i64 k,.int .i64 wn,.int .i64 a,.int .i64 u]:=Blk.new _ _ _
 have HB0:=Lh hb0
 have E0:=Lh e0
 clear hb0 e0
 have K0:=Lh (fun (W:World) (_:Below w.heap.size w W)=>sIn k 1 5 W)
 have K1:=Lh (fun (W:World) (_:Below w.heap.size w W)=>sIn wn 0 2 W)
 have K2:=Lh (fun (W:World) (_:Below w.heap.size w W)=>sIn a 1 3 W)
 have K3:=Lh (fun (W:World) (_:Below w.heap.size w W)=>sIn u 0 12 W)
 cases q0:Sx.inB k 1 5 with
 | false=>
  rw[q0] at K0 hR
  have HR:Hid (R=false):=Lh (by rw [hR];simp)
  clear hR
  go_enter Tryz.func120,Tryz.ntmps120
  go_wp2_with fail
  refine (K0.out _ HB0.out).mono ?_
  rintro e w1 ⟨rfl,hb⟩
  have HB1:=Lh (HB0.out.trans (hb.mono HB0.out.size))
  have y:=E0.out.below hb E0.out.lt
  have E1:=Lh y
  obtain ⟨x0,x1,x2,x3,z1⟩:=cells4 y
  clear hb y
  go_wp2_with fail
  go_ret
  exact ⟨ret_bool HR.out.symm,HB1.out⟩
 | true=>
 rw[q0] at K0 hR
 cases q1:Sx.inB wn 0 2 with
 | false=>
  rw[q1] at K1 hR
  have HR:Hid (R=false):=Lh (by rw [hR];simp)
  clear hR
  go_enter Tryz.func120,Tryz.ntmps120
  go_wp2_with fail
  refine (K0.out _ HB0.out).mono ?_
  rintro e w1 ⟨rfl,hb⟩
  have HB1:=Lh (HB0.out.trans (hb.mono HB0.out.size))
  have y:=E0.out.below hb E0.out.lt
  have E1:=Lh y
  obtain ⟨x0,x1,x2,x3,z1⟩:=cells4 y
  clear hb y
  go_wp2_with fail
  refine (K1.out _ HB1.out).mono ?_
  rintro e w2 ⟨rfl,hb⟩
  have HB2:=Lh (HB1.out.trans (hb.mono HB1.out.size))
  have y:=E1.out.below hb E1.out.lt
  have E2:=Lh y
  obtain ⟨x0,x1,x2,x3,z2⟩:=cells4 y
  clear hb y
  go_wp2_with fail
  go_ret
  exact ⟨ret_bool HR.out.symm,HB2.out⟩
 | true=>
 rw[q1] at K1 hR
 cases q2:Sx.inB a 1 3 with
 | false=>
  rw[q2] at K2 hR
  have HR:Hid (R=false):=Lh (by rw [hR];simp)
  clear hR
  go_enter Tryz.func120,Tryz.ntmps120
  go_wp2_with fail
  refine (K0.out _ HB0.out).mono ?_
  rintro e w1 ⟨rfl,hb⟩
  have HB1:=Lh (HB0.out.trans (hb.mono HB0.out.size))
  have y:=E0.out.below hb E0.out.lt
  have E1:=Lh y
  obtain ⟨x0,x1,x2,x3,z1⟩:=cells4 y
  clear hb y
  go_wp2_with fail
  refine (K1.out _ HB1.out).mono ?_
  rintro e w2 ⟨rfl,hb⟩
  have HB2:=Lh (HB1.out.trans (hb.mono HB1.out.size))
  have y:=E1.out.below hb E1.out.lt
  have E2:=Lh y
  obtain ⟨x0,x1,x2,x3,z2⟩:=cells4 y
  clear hb y
  go_wp2_with fail
  refine (K2.out _ HB2.out).mono ?_
  rintro e w3 ⟨rfl,hb⟩
  have HB3:=Lh (HB2.out.trans (hb.mono HB2.out.size))
  have y:=E2.out.below hb E2.out.lt
  have E3:=Lh y
  obtain ⟨x0,x1,x2,x3,z3⟩:=cells4 y
  clear hb y
  go_wp2_with fail
  go_ret
  exact ⟨ret_bool HR.out.symm,HB3.out⟩
 | true=>
 rw[q2] at K2 hR
 have HR:Hid (R=(Sx.inB u 0 12)):=Lh (by rw [hR];simp)
 clear hR
 go_enter Tryz.func120,Tryz.ntmps120
 go_wp2_with fail
 refine (K0.out _ HB0.out).mono ?_
 rintro e w1 ⟨rfl,hb⟩
 have HB1:=Lh (HB0.out.trans (hb.mono HB0.out.size))
 have y:=E0.out.below hb E0.out.lt
 have E1:=Lh y
 obtain ⟨x0,x1,x2,x3,z1⟩:=cells4 y
 clear hb y
 go_wp2_with fail
 refine (K1.out _ HB1.out).mono ?_
 rintro e w2 ⟨rfl,hb⟩
 have HB2:=Lh (HB1.out.trans (hb.mono HB1.out.size))
 have y:=E1.out.below hb E1.out.lt
 have E2:=Lh y
 obtain ⟨x0,x1,x2,x3,z2⟩:=cells4 y
 clear hb y
 go_wp2_with fail
 refine (K2.out _ HB2.out).mono ?_
 rintro e w3 ⟨rfl,hb⟩
 have HB3:=Lh (HB2.out.trans (hb.mono HB2.out.size))
 have y:=E2.out.below hb E2.out.lt
 have E3:=Lh y
 obtain ⟨x0,x1,x2,x3,z3⟩:=cells4 y
 clear hb y
 go_wp2_with fail
 refine (K3.out _ HB3.out).mono ?_
 rintro e w4 ⟨rfl,hb⟩
 have HB4:=Lh (HB3.out.trans (hb.mono HB3.out.size))
 have y:=E3.out.below hb E3.out.lt
 have E4:=Lh y
 obtain ⟨x0,x1,x2,x3,z4⟩:=cells4 y
 clear hb y
 go_wp2_with fail
 go_ret
 exact ⟨ret_bool HR.out.symm,HB4.out⟩
set_option maxRecDepth 20000 in
set_option maxHeartbeats 4000000 in
theorem okCls0 (nm:List UInt8) (ea n d:Int) (hn:nm.length≤140737488351232) (w:World) :
  Calls Tryz.prog 127 #[.agg #[.string (Lx.bs nm),.int .i64 ea,.int .i64 n,.int .i64 d]] w (BoolPost (Lx.isName nm && Sx.inB ea 0 10000 && Sx.Ratio.fine ⟨n,d⟩) w):=by
 obtain ⟨R,hR⟩:∃ R:Bool,R=(Lx.isName nm && Sx.inB ea 0 10000 && Sx.Ratio.fine ⟨n,d⟩):=⟨_,rfl⟩
 rw[←hR]
 have hb0:Below w.heap.size w (w.alloc (.cells #[.string (Lx.bs nm),.int .i64 ea,.int .i64 n,.int .i64 d] 82)):=(Below.refl _ _).alloc (Nat.le_refl _) _
 have e0:Blk (w.alloc (.cells #[.string (Lx.bs nm),.int .i64 ea,.int .i64 n,.int .i64 d] 82)) w.heap.size 82 #[.string (Lx.bs nm),.int .i64 ea,.int .i64 n,.int .i64 d]:=Blk.new _ _ _
 have HB0:=Lh hb0
 have E0:=Lh e0
 clear hb0 e0
 have K0:=Lh (fun (W:World) (_:Below w.heap.size w W)=>sNameB nm W hn)
 have K1:=Lh (fun (W:World) (_:Below w.heap.size w W)=>sIn ea 0 10000 W)
 have K2:=Lh (fun (W:World) (_:Below w.heap.size w W)=>sFine n d W)
 cases q0:Lx.isName nm with
 | false=>
  rw[q0] at K0 hR
  have HR:Hid (R=false):=Lh (by rw [hR];simp)
  clear hR
  go_enter Tryz.func127,Tryz.ntmps127
  go_wp2_with fail
  refine (K0.out _ HB0.out).mono ?_
  rintro e w1 ⟨rfl,hb⟩
  have HB1:=Lh (HB0.out.trans (hb.mono HB0.out.size))
  have y:=E0.out.below hb E0.out.lt
  have E1:=Lh y
  obtain ⟨x0,x1,x2,x3,z1⟩:=cells4 y
  clear hb y
  go_wp2_with fail
  go_ret
  exact ⟨ret_bool HR.out.symm,HB1.out⟩
 | true=>
 rw[q0] at K0 hR
 cases q1:Sx.inB ea 0 10000 with
 | false=>
  rw[q1] at K1 hR
  have HR:Hid (R=false):=Lh (by rw [hR];simp)
  clear hR
  go_enter Tryz.func127,Tryz.ntmps127
  go_wp2_with fail
  refine (K0.out _ HB0.out).mono ?_
  rintro e w1 ⟨rfl,hb⟩
  have HB1:=Lh (HB0.out.trans (hb.mono HB0.out.size))
  have y:=E0.out.below hb E0.out.lt
  have E1:=Lh y
  obtain ⟨x0,x1,x2,x3,z1⟩:=cells4 y
  clear hb y
  go_wp2_with fail
  refine (K1.out _ HB1.out).mono ?_
  rintro e w2 ⟨rfl,hb⟩
  have HB2:=Lh (HB1.out.trans (hb.mono HB1.out.size))
  have y:=E1.out.below hb E1.out.lt
  have E2:=Lh y
  obtain ⟨x0,x1,x2,x3,z2⟩:=cells4 y
  clear hb y
  go_wp2_with fail
  go_ret
  exact ⟨ret_bool HR.out.symm,HB2.out⟩
 | true=>
 rw[q1] at K1 hR
 have HR:Hid (R=(Sx.Ratio.fine ⟨n,d⟩)):=Lh (by rw [hR];simp)
 clear hR
 go_enter Tryz.func127,Tryz.ntmps127
 go_wp2_with fail
 refine (K0.out _ HB0.out).mono ?_
 rintro e w1 ⟨rfl,hb⟩
 have HB1:=Lh (HB0.out.trans (hb.mono HB0.out.size))
 have y:=E0.out.below hb E0.out.lt
 have E1:=Lh y
 obtain ⟨x0,x1,x2,x3,z1⟩:=cells4 y
 clear hb y
 go_wp2_with fail
 refine (K1.out _ HB1.out).mono ?_
 rintro e w2 ⟨rfl,hb⟩
 have HB2:=Lh (HB1.out.trans (hb.mono HB1.out.size))
 have y:=E1.out.below hb E1.out.lt
 have E2:=Lh y
 obtain ⟨x0,x1,x2,x3,z2⟩:=cells4 y
 clear hb y
 go_wp2_with fail
 refine (K2.out _ HB2.out).mono ?_
 rintro e w3 ⟨rfl,hb⟩
 have HB3:=Lh (HB2.out.trans (hb.mono HB2.out.size))
 have y:=E2.out.below hb E2.out.lt
 have E3:=Lh y
 obtain ⟨x0,x1,x2,x3,z3⟩:=cells4 y
 clear hb y
 go_wp2_with fail
 go_ret
 exact ⟨ret_bool HR.out.symm,HB3.out⟩
set_option maxRecDepth 20000 in
set_option maxHeartbeats 4000000 in
theorem okReq0 (nm:List UInt8) (cr gr:Int) (hm:Bool) (ns:List (List UInt8)) (fs:List Int) (A B:Option Addr) (c d m m2:Nat) (hm1:m=ns.length) (hm2:m2=fs.length) (hn:nm.length≤140737488351232) (w:World) (hns:Row w (Old w) A 1 StrAt ns) (hfs:Row w (Old w) B 1 (OneAt intV) fs) :
  Calls Tryz.prog 181 #[.agg #[.string (Lx.bs nm),.int .i64 cr,.int .i64 gr,.bool hm,.slice A m c,.slice B m2 d]] w (BoolPost (Lx.isName nm && Sx.inB cr 1 10000 && Sx.inB gr 0 12 && !((m:Int) == 0) && !((m:Int) != (m2:Int)) && (ns.zip fs).all fun p=>Sx.refOk p.1 p.2) w):=by
 obtain ⟨R,hR⟩:∃ R:Bool,R=(Lx.isName nm && Sx.inB cr 1 10000 && Sx.inB gr 0 12 && !((m:Int) == 0) && !((m:Int) != (m2:Int)) && (ns.zip fs).all fun p=>Sx.refOk p.1 p.2):=⟨_,rfl⟩
 rw[←hR]
 have hb0:Below w.heap.size w (w.alloc (.cells #[.string (Lx.bs nm),.int .i64 cr,.int .i64 gr,.bool hm,.slice A m c,.slice B m2 d] 108)):=(Below.refl _ _).alloc (Nat.le_refl _) _
 have e0:Blk (w.alloc (.cells #[.string (Lx.bs nm),.int .i64 cr,.int .i64 gr,.bool hm,.slice A m c,.slice B m2 d] 108)) w.heap.size 108 #[.string (Lx.bs nm),.int .i64 cr,.int .i64 gr,.bool hm,.slice A m c,.slice B m2 d]:=Blk.new _ _ _
 have HB0:=Lh hb0
 have E0:=Lh e0
 clear hb0 e0
 have Hm:=Lh hm1;have Hm2:=Lh hm2;have Hns:=Lh hns;have Hfs:=Lh hfs
 have hz:=hns.len
 rw[←hm1] at hz
 clear hm1 hm2 hns hfs
 have K0:=Lh (fun (W:World) (_:Below w.heap.size w W)=>sNameB nm W hn)
 have K1:=Lh (fun (W:World) (_:Below w.heap.size w W)=>sIn cr 1 10000 W)
 have K2:=Lh (fun (W:World) (_:Below w.heap.size w W)=>sIn gr 0 12 W)
 cases q0:Lx.isName nm with
 | false=>
  rw[q0] at K0 hR
  have HR:Hid (R=false):=Lh (by rw [hR];simp)
  clear hR
  go_enter Tryz.func181,Tryz.ntmps181
  go_wp2_with fail
  refine (K0.out _ HB0.out).mono ?_
  rintro e w1 ⟨rfl,hb⟩
  have HB1:=Lh (HB0.out.trans (hb.mono HB0.out.size))
  have y:=E0.out.below hb E0.out.lt
  have E1:=Lh y
  obtain ⟨x0,x1,x2,x3,x4,x5,z1⟩:=cells6 y
  clear hb y
  go_wp2_with fail
  go_ret
  exact ⟨ret_bool HR.out.symm,HB1.out⟩
 | true=>
 rw[q0] at K0 hR
 cases q1:Sx.inB cr 1 10000 with
 | false=>
  rw[q1] at K1 hR
  have HR:Hid (R=false):=Lh (by rw [hR];simp)
  clear hR
  go_enter Tryz.func181,Tryz.ntmps181
  go_wp2_with fail
  refine (K0.out _ HB0.out).mono ?_
  rintro e w1 ⟨rfl,hb⟩
  have HB1:=Lh (HB0.out.trans (hb.mono HB0.out.size))
  have y:=E0.out.below hb E0.out.lt
  have E1:=Lh y
  obtain ⟨x0,x1,x2,x3,x4,x5,z1⟩:=cells6 y
  clear hb y
  go_wp2_with fail
  refine (K1.out _ HB1.out).mono ?_
  rintro e w2 ⟨rfl,hb⟩
  have HB2:=Lh (HB1.out.trans (hb.mono HB1.out.size))
  have y:=E1.out.below hb E1.out.lt
  have E2:=Lh y
  obtain ⟨x0,x1,x2,x3,x4,x5,z2⟩:=cells6 y
  clear hb y
  go_wp2_with fail
  go_ret
  exact ⟨ret_bool HR.out.symm,HB2.out⟩
 | true=>
 rw[q1] at K1 hR
 cases q2:Sx.inB gr 0 12 with
 | false=>
  rw[q2] at K2 hR
  have HR:Hid (R=false):=Lh (by rw [hR];simp)
  clear hR
  go_enter Tryz.func181,Tryz.ntmps181
  go_wp2_with fail
  refine (K0.out _ HB0.out).mono ?_
  rintro e w1 ⟨rfl,hb⟩
  have HB1:=Lh (HB0.out.trans (hb.mono HB0.out.size))
  have y:=E0.out.below hb E0.out.lt
  have E1:=Lh y
  obtain ⟨x0,x1,x2,x3,x4,x5,z1⟩:=cells6 y
  clear hb y
  go_wp2_with fail
  refine (K1.out _ HB1.out).mono ?_
  rintro e w2 ⟨rfl,hb⟩
  have HB2:=Lh (HB1.out.trans (hb.mono HB1.out.size))
  have y:=E1.out.below hb E1.out.lt
  have E2:=Lh y
  obtain ⟨x0,x1,x2,x3,x4,x5,z2⟩:=cells6 y
  clear hb y
  go_wp2_with fail
  refine (K2.out _ HB2.out).mono ?_
  rintro e w3 ⟨rfl,hb⟩
  have HB3:=Lh (HB2.out.trans (hb.mono HB2.out.size))
  have y:=E2.out.below hb E2.out.lt
  have E3:=Lh y
  obtain ⟨x0,x1,x2,x3,x4,x5,z3⟩:=cells6 y
  clear hb y
  go_wp2_with fail
  go_ret
  exact ⟨ret_bool HR.out.symm,HB3.out⟩
 | true=>
 rw[q2] at K2 hR
 cases q3:((m:Int) == 0) with
 | true=>
  rw[q3] at hR
  have HR:Hid (R=false):=Lh (by rw [hR];simp)
  clear hR
  go_enter Tryz.func181,Tryz.ntmps181
  go_wp2_with fail
  refine (K0.out _ HB0.out).mono ?_
  rintro e w1 ⟨rfl,hb⟩
  have HB1:=Lh (HB0.out.trans (hb.mono HB0.out.size))
  have y:=E0.out.below hb E0.out.lt
  have E1:=Lh y
  obtain ⟨x0,x1,x2,x3,x4,x5,z1⟩:=cells6 y
  clear hb y
  go_wp2_with fail
  refine (K1.out _ HB1.out).mono ?_
  rintro e w2 ⟨rfl,hb⟩
  have HB2:=Lh (HB1.out.trans (hb.mono HB1.out.size))
  have y:=E1.out.below hb E1.out.lt
  have E2:=Lh y
  obtain ⟨x0,x1,x2,x3,x4,x5,z2⟩:=cells6 y
  clear hb y
  go_wp2_with fail
  refine (K2.out _ HB2.out).mono ?_
  rintro e w3 ⟨rfl,hb⟩
  have HB3:=Lh (HB2.out.trans (hb.mono HB2.out.size))
  have y:=E2.out.below hb E2.out.lt
  have E3:=Lh y
  obtain ⟨x0,x1,x2,x3,x4,x5,z3⟩:=cells6 y
  clear hb y
  go_wp2_with fail
  go_ret
  exact ⟨ret_bool HR.out.symm,HB3.out⟩
 | false=>
 rw[q3] at hR
 cases q4:((m:Int) != (m2:Int)) with
 | true=>
  rw[q4] at hR
  have HR:Hid (R=false):=Lh (by rw [hR];simp)
  clear hR
  go_enter Tryz.func181,Tryz.ntmps181
  go_wp2_with fail
  refine (K0.out _ HB0.out).mono ?_
  rintro e w1 ⟨rfl,hb⟩
  have HB1:=Lh (HB0.out.trans (hb.mono HB0.out.size))
  have y:=E0.out.below hb E0.out.lt
  have E1:=Lh y
  obtain ⟨x0,x1,x2,x3,x4,x5,z1⟩:=cells6 y
  clear hb y
  go_wp2_with fail
  refine (K1.out _ HB1.out).mono ?_
  rintro e w2 ⟨rfl,hb⟩
  have HB2:=Lh (HB1.out.trans (hb.mono HB1.out.size))
  have y:=E1.out.below hb E1.out.lt
  have E2:=Lh y
  obtain ⟨x0,x1,x2,x3,x4,x5,z2⟩:=cells6 y
  clear hb y
  go_wp2_with fail
  refine (K2.out _ HB2.out).mono ?_
  rintro e w3 ⟨rfl,hb⟩
  have HB3:=Lh (HB2.out.trans (hb.mono HB2.out.size))
  have y:=E2.out.below hb E2.out.lt
  have E3:=Lh y
  obtain ⟨x0,x1,x2,x3,x4,x5,z3⟩:=cells6 y
  clear hb y
  go_wp2_with fail
  go_ret
  exact ⟨ret_bool HR.out.symm,HB3.out⟩
 | false=>
 rw[q4] at hR
 obtain rfl:m=m2:=by have:(m:Int)=m2:=(by simpa using q4);omega
 have HR:Hid (R=(ns.zip fs).all fun p=>Sx.refOk p.1 p.2):=Lh (by rw [hR];simp)
 clear hR
 go_enter Tryz.func181,Tryz.ntmps181
 go_wp2_with fail
 refine (K0.out _ HB0.out).mono ?_
 rintro e w1 ⟨rfl,hb⟩
 have HB1:=Lh (HB0.out.trans (hb.mono HB0.out.size))
 have y:=E0.out.below hb E0.out.lt
 have E1:=Lh y
 obtain ⟨x0,x1,x2,x3,x4,x5,z1⟩:=cells6 y
 clear hb y
 go_wp2_with fail
 refine (K1.out _ HB1.out).mono ?_
 rintro e w2 ⟨rfl,hb⟩
 have HB2:=Lh (HB1.out.trans (hb.mono HB1.out.size))
 have y:=E1.out.below hb E1.out.lt
 have E2:=Lh y
 obtain ⟨x0,x1,x2,x3,x4,x5,z2⟩:=cells6 y
 clear hb y
 go_wp2_with fail
 refine (K2.out _ HB2.out).mono ?_
 rintro e w3 ⟨rfl,hb⟩
 have HB3:=Lh (HB2.out.trans (hb.mono HB2.out.size))
 have y:=E2.out.below hb E2.out.lt
 have E3:=Lh y
 obtain ⟨x0,x1,x2,x3,x4,x5,z3⟩:=cells6 y
 clear hb y
 go_wp2_with fail
 go_loopg [39] m (fun gk v39 wr=>∃ i:Nat,v39 = .int .i64 i∧i+gk=m∧Hid (Below w.heap.size w wr)∧Hid (Blk wr w.heap.size 108 #[.string (Lx.bs nm),.int .i64 cr,.int .i64 gr,.bool hm,.slice A m c,.slice B m d])∧Hid (∀ j,j < i→∀ x n,ns[j]?=some x→fs[j]?=some n→Sx.refOk x n=true))
 case atStart=>exact ⟨0,rfl,by omega,HB3,E3,Lh (fun j hj=>absurd hj (Nat.not_lt_zero j))⟩
 case round=>
  obtain ⟨i,rfl,hi,Hb,He,Hag⟩:=hrel
  have hws:=Hb.out.size
  have z:=He.out.lt
  have x5:=He.out.cell 5
  simp at x5
  by_cases hlt:i < m
  ·obtain ⟨x,hx⟩:∃ x,ns[i]?=some x:=⟨_,List.getElem?_eq_getElem (by have:=Hm.out;omega)⟩
   obtain ⟨f,hf⟩:∃ f,fs[i]?=some f:=⟨_,List.getElem?_eq_getElem (by have:=Hm2.out;omega)⟩
   have Hx:=Lh hx;have Hf:=Lh hf
   obtain ⟨bk,ok,cs,rfl,hS,hP,hck⟩:=Hns.out.at_ i x hx
   obtain ⟨bf,of,cf,rfl,hSf,hPf,hcf⟩:=Hfs.out.at_ i f hf
   obtain ⟨rfl,hxl⟩:=hP
   unfold OneAt at hPf
   subst hPf
   have k0:=(Hb.out.cell (p:=⟨bk,_,none⟩) hS).trans (hck 0 _ rfl)
   have f0:=(Hb.out.cell (p:=⟨bf,_,none⟩) hSf).trans (hcf 0 _ rfl)
   simp only[Nat.add_zero,Nat.mul_one,strV,intV] at k0 f0
   have Hcall:=Lh (sRefOk x f wr hxl)
   clear hck hcf hx hf
   cases hq:Sx.refOk x f with
   | false=>
    rw[hq] at Hcall
    have HR2:Hid (R=false):=Lh (by
     rw[HR.out,List.all_eq_false]
     exact ⟨(x,f),List.mem_of_getElem? (i:=i) (by rw [List.getElem?_zip_eq_some];exact ⟨Hx.out,Hf.out⟩),by simp [hq]⟩)
    clear hq
    go_wp2_with fail
    refine Hcall.out.mono ?_
    rintro e w5 ⟨rfl,hb5⟩
    have Hb5:=Lh hb5
    clear hb5
    go_wp2_with fail
    go_ret
    exact ⟨ret_bool HR2.out.symm,Hb.out.trans (Hb5.out.mono hws)⟩
   | true=>
    rw[hq] at Hcall
    have Hq:=Lh hq
    clear hq
    go_wp2_with fail
    refine Hcall.out.mono ?_
    rintro e w5 ⟨rfl,hb5⟩
    have Hb5:=Lh hb5
    clear hb5
    go_wp2_with fail
    go_roundg (gk - 1)
    all_goals first
     | omega
     | exact ⟨i+1,by go_num,by omega,Lh (Hb.out.trans (Hb5.out.mono hws)),Lh (He.out.below Hb5.out He.out.lt),Lh (fun j hj y n h1 h2=>by
       rcases Nat.lt_or_ge j i with h3 | h3
       ·exact Hag.out j h3 y n h1 h2
       ·obtain rfl:j=i:=by omega
        rw[Hx.out] at h1;rw[Hf.out] at h2
        injection h1 with h1;injection h2 with h2
        rw[←h1,←h2];exact Hq.out)⟩
  ·obtain rfl:i=m:=by omega
   have HR2:Hid (R=true):=Lh (by
    rw[HR.out,List.all_eq_true]
    rintro ⟨y,n⟩ hy
    obtain ⟨j,hj⟩:=List.mem_iff_getElem?.1 hy
    rw[List.getElem?_zip_eq_some] at hj
    exact Hag.out j (by have:=(List.getElem?_eq_some_iff.1 hj.1).1;have:=Hm.out;omega) y n hj.1 hj.2)
   go_wp2_with fail
   go_ret
   exact ⟨ret_bool HR2.out.symm,Hb.out⟩
theorem okReq (x:Sx.Req) (cs:List Value) (w:World) (h:ReqAt w (Old w) x cs):Calls Tryz.prog 181 #[.agg cs.toArray] w (BoolPost (Sx.reqOk x) w):=by
 obtain ⟨A,c,B,d,rfl,hn,h1,h2⟩:=h
 have e:Sx.reqOk x=(Lx.isName x.name && Sx.inB x.credits 1 10000 && Sx.inB x.grade 0 12 && !((x.names.length:Int) == 0) && !((x.names.length:Int) != (x.froms.length:Int)) && (x.names.zip x.froms).all fun p=>Sx.refOk p.1 p.2):=by
  unfold Sx.reqOk
  have e1:(!x.names.isEmpty) = !((x.names.length:Int) == 0):=by cases x.names <;> simp;omega
  have e2:(x.names.length == x.froms.length) = !((x.names.length:Int) != (x.froms.length:Int)):=by
   rw[Bool.eq_iff_iff];simp;omega
  rw[e1,e2]
 rw[e]
 exact okReq0 x.name x.credits x.grade x.home x.names x.froms A B c d _ _ rfl rfl hn w h1 h2
set_option maxRecDepth 20000 in
set_option maxHeartbeats 4000000 in
theorem okProg0 (nm:List UInt8) (no us ea n d:Int) (qs:List Sx.Req) (A:Option Addr) (c m:Nat) (hm:m=qs.length) (hn:nm.length≤140737488351232) (w:World) (hq:Row w (Old w) A 6 (ReqAt w (Old w)) qs) :
  Calls Tryz.prog 125 #[.agg #[.string (Lx.bs nm),.int .i64 no,.int .i64 us,.int .i64 ea,.int .i64 n,.int .i64 d,.slice A m c]] w (BoolPost (Sx.inB no 0 255 && Lx.isName nm && Sx.inB us 1 4 && Sx.inB ea 0 10000 && Sx.Ratio.fine ⟨n,d⟩ && !decide ((64:Int) < (m:Int)) && qs.all Sx.reqOk) w):=by
 obtain ⟨R,hR⟩:∃ R:Bool,R=(Sx.inB no 0 255 && Lx.isName nm && Sx.inB us 1 4 && Sx.inB ea 0 10000 && Sx.Ratio.fine ⟨n,d⟩ && !decide ((64:Int) < (m:Int)) && qs.all Sx.reqOk):=⟨_,rfl⟩
 rw[←hR]
 have hb0:Below w.heap.size w (w.alloc (.cells #[.string (Lx.bs nm),.int .i64 no,.int .i64 us,.int .i64 ea,.int .i64 n,.int .i64 d,.slice A m c] 78)):=(Below.refl _ _).alloc (Nat.le_refl _) _
 have e0:Blk (w.alloc (.cells #[.string (Lx.bs nm),.int .i64 no,.int .i64 us,.int .i64 ea,.int .i64 n,.int .i64 d,.slice A m c] 78)) w.heap.size 78 #[.string (Lx.bs nm),.int .i64 no,.int .i64 us,.int .i64 ea,.int .i64 n,.int .i64 d,.slice A m c]:=Blk.new _ _ _
 have HB0:=Lh hb0
 have E0:=Lh e0
 clear hb0 e0
 have Hall:Hid (∀ W,Below w.heap.size w W→Calls Tryz.prog 180 #[.slice A m c,.func (.func 181) #[] #[]] W (BoolPost (qs.all Sx.reqOk) W)):=Lh (fun W hW=>by
  rw[hm]
  exact all_req A c qs Sx.reqOk W (hq.keep (P':=ReqAt W (Old W)) (old_keep hW) fun _ _ _ h=>old_req hW h) (fun x _ cs W' _ h=>okReq x cs W' h))
 clear hm hq
 have K0:=Lh (fun (W:World) (_:Below w.heap.size w W)=>sIn no 0 255 W)
 have K1:=Lh (fun (W:World) (_:Below w.heap.size w W)=>sNameB nm W hn)
 have K2:=Lh (fun (W:World) (_:Below w.heap.size w W)=>sIn us 1 4 W)
 have K3:=Lh (fun (W:World) (_:Below w.heap.size w W)=>sIn ea 0 10000 W)
 have K4:=Lh (fun (W:World) (_:Below w.heap.size w W)=>sFine n d W)
 cases q0:Sx.inB no 0 255 with
 | false=>
  rw[q0] at K0 hR
  have HR:Hid (R=false):=Lh (by rw [hR];simp)
  clear hR
  go_enter Tryz.func125,Tryz.ntmps125
  go_wp2_with fail
  refine (K0.out _ HB0.out).mono ?_
  rintro e w1 ⟨rfl,hb⟩
  have HB1:=Lh (HB0.out.trans (hb.mono HB0.out.size))
  have y:=E0.out.below hb E0.out.lt
  have E1:=Lh y
  obtain ⟨x0,x1,x2,x3,x4,x5,x6,z1⟩:=cells7 y
  clear hb y
  go_wp2_with fail
  go_ret
  exact ⟨ret_bool HR.out.symm,HB1.out⟩
 | true=>
 rw[q0] at K0 hR
 cases q1:Lx.isName nm with
 | false=>
  rw[q1] at K1 hR
  have HR:Hid (R=false):=Lh (by rw [hR];simp)
  clear hR
  go_enter Tryz.func125,Tryz.ntmps125
  go_wp2_with fail
  refine (K0.out _ HB0.out).mono ?_
  rintro e w1 ⟨rfl,hb⟩
  have HB1:=Lh (HB0.out.trans (hb.mono HB0.out.size))
  have y:=E0.out.below hb E0.out.lt
  have E1:=Lh y
  obtain ⟨x0,x1,x2,x3,x4,x5,x6,z1⟩:=cells7 y
  clear hb y
  go_wp2_with fail
  refine (K1.out _ HB1.out).mono ?_
  rintro e w2 ⟨rfl,hb⟩
  have HB2:=Lh (HB1.out.trans (hb.mono HB1.out.size))
  have y:=E1.out.below hb E1.out.lt
  have E2:=Lh y
  obtain ⟨x0,x1,x2,x3,x4,x5,x6,z2⟩:=cells7 y
  clear hb y
  go_wp2_with fail
  go_ret
  exact ⟨ret_bool HR.out.symm,HB2.out⟩
 | true=>
 rw[q1] at K1 hR
 cases q2:Sx.inB us 1 4 with
 | false=>
  rw[q2] at K2 hR
  have HR:Hid (R=false):=Lh (by rw [hR];simp)
  clear hR
  go_enter Tryz.func125,Tryz.ntmps125
  go_wp2_with fail
  refine (K0.out _ HB0.out).mono ?_
  rintro e w1 ⟨rfl,hb⟩
  have HB1:=Lh (HB0.out.trans (hb.mono HB0.out.size))
  have y:=E0.out.below hb E0.out.lt
  have E1:=Lh y
  obtain ⟨x0,x1,x2,x3,x4,x5,x6,z1⟩:=cells7 y
  clear hb y
  go_wp2_with fail
  refine (K1.out _ HB1.out).mono ?_
  rintro e w2 ⟨rfl,hb⟩
  have HB2:=Lh (HB1.out.trans (hb.mono HB1.out.size))
  have y:=E1.out.below hb E1.out.lt
  have E2:=Lh y
  obtain ⟨x0,x1,x2,x3,x4,x5,x6,z2⟩:=cells7 y
  clear hb y
  go_wp2_with fail
  refine (K2.out _ HB2.out).mono ?_
  rintro e w3 ⟨rfl,hb⟩
  have HB3:=Lh (HB2.out.trans (hb.mono HB2.out.size))
  have y:=E2.out.below hb E2.out.lt
  have E3:=Lh y
  obtain ⟨x0,x1,x2,x3,x4,x5,x6,z3⟩:=cells7 y
  clear hb y
  go_wp2_with fail
  go_ret
  exact ⟨ret_bool HR.out.symm,HB3.out⟩
 | true=>
 rw[q2] at K2 hR
 cases q3:Sx.inB ea 0 10000 with
 | false=>
  rw[q3] at K3 hR
  have HR:Hid (R=false):=Lh (by rw [hR];simp)
  clear hR
  go_enter Tryz.func125,Tryz.ntmps125
  go_wp2_with fail
  refine (K0.out _ HB0.out).mono ?_
  rintro e w1 ⟨rfl,hb⟩
  have HB1:=Lh (HB0.out.trans (hb.mono HB0.out.size))
  have y:=E0.out.below hb E0.out.lt
  have E1:=Lh y
  obtain ⟨x0,x1,x2,x3,x4,x5,x6,z1⟩:=cells7 y
  clear hb y
  go_wp2_with fail
  refine (K1.out _ HB1.out).mono ?_
  rintro e w2 ⟨rfl,hb⟩
  have HB2:=Lh (HB1.out.trans (hb.mono HB1.out.size))
  have y:=E1.out.below hb E1.out.lt
  have E2:=Lh y
  obtain ⟨x0,x1,x2,x3,x4,x5,x6,z2⟩:=cells7 y
  clear hb y
  go_wp2_with fail
  refine (K2.out _ HB2.out).mono ?_
  rintro e w3 ⟨rfl,hb⟩
  have HB3:=Lh (HB2.out.trans (hb.mono HB2.out.size))
  have y:=E2.out.below hb E2.out.lt
  have E3:=Lh y
  obtain ⟨x0,x1,x2,x3,x4,x5,x6,z3⟩:=cells7 y
  clear hb y
  go_wp2_with fail
  refine (K3.out _ HB3.out).mono ?_
  rintro e w4 ⟨rfl,hb⟩
  have HB4:=Lh (HB3.out.trans (hb.mono HB3.out.size))
  have y:=E3.out.below hb E3.out.lt
  have E4:=Lh y
  obtain ⟨x0,x1,x2,x3,x4,x5,x6,z4⟩:=cells7 y
  clear hb y
  go_wp2_with fail
  go_ret
  exact ⟨ret_bool HR.out.symm,HB4.out⟩
 | true=>
 rw[q3] at K3 hR
 cases q4:Sx.Ratio.fine ⟨n,d⟩ with
 | false=>
  rw[q4] at K4 hR
  have HR:Hid (R=false):=Lh (by rw [hR];simp)
  clear hR
  go_enter Tryz.func125,Tryz.ntmps125
  go_wp2_with fail
  refine (K0.out _ HB0.out).mono ?_
  rintro e w1 ⟨rfl,hb⟩
  have HB1:=Lh (HB0.out.trans (hb.mono HB0.out.size))
  have y:=E0.out.below hb E0.out.lt
  have E1:=Lh y
  obtain ⟨x0,x1,x2,x3,x4,x5,x6,z1⟩:=cells7 y
  clear hb y
  go_wp2_with fail
  refine (K1.out _ HB1.out).mono ?_
  rintro e w2 ⟨rfl,hb⟩
  have HB2:=Lh (HB1.out.trans (hb.mono HB1.out.size))
  have y:=E1.out.below hb E1.out.lt
  have E2:=Lh y
  obtain ⟨x0,x1,x2,x3,x4,x5,x6,z2⟩:=cells7 y
  clear hb y
  go_wp2_with fail
  refine (K2.out _ HB2.out).mono ?_
  rintro e w3 ⟨rfl,hb⟩
  have HB3:=Lh (HB2.out.trans (hb.mono HB2.out.size))
  have y:=E2.out.below hb E2.out.lt
  have E3:=Lh y
  obtain ⟨x0,x1,x2,x3,x4,x5,x6,z3⟩:=cells7 y
  clear hb y
  go_wp2_with fail
  refine (K3.out _ HB3.out).mono ?_
  rintro e w4 ⟨rfl,hb⟩
  have HB4:=Lh (HB3.out.trans (hb.mono HB3.out.size))
  have y:=E3.out.below hb E3.out.lt
  have E4:=Lh y
  obtain ⟨x0,x1,x2,x3,x4,x5,x6,z4⟩:=cells7 y
  clear hb y
  go_wp2_with fail
  refine (K4.out _ HB4.out).mono ?_
  rintro e w5 ⟨rfl,hb⟩
  have HB5:=Lh (HB4.out.trans (hb.mono HB4.out.size))
  have y:=E4.out.below hb E4.out.lt
  have E5:=Lh y
  obtain ⟨x0,x1,x2,x3,x4,x5,x6,z5⟩:=cells7 y
  clear hb y
  go_wp2_with fail
  go_ret
  exact ⟨ret_bool HR.out.symm,HB5.out⟩
 | true=>
 rw[q4] at K4 hR
 cases q5:decide ((64:Int) < (m:Int)) with
 | true=>
  rw[q5] at hR
  have HR:Hid (R=false):=Lh (by rw [hR];simp)
  clear hR
  go_enter Tryz.func125,Tryz.ntmps125
  go_wp2_with fail
  refine (K0.out _ HB0.out).mono ?_
  rintro e w1 ⟨rfl,hb⟩
  have HB1:=Lh (HB0.out.trans (hb.mono HB0.out.size))
  have y:=E0.out.below hb E0.out.lt
  have E1:=Lh y
  obtain ⟨x0,x1,x2,x3,x4,x5,x6,z1⟩:=cells7 y
  clear hb y
  go_wp2_with fail
  refine (K1.out _ HB1.out).mono ?_
  rintro e w2 ⟨rfl,hb⟩
  have HB2:=Lh (HB1.out.trans (hb.mono HB1.out.size))
  have y:=E1.out.below hb E1.out.lt
  have E2:=Lh y
  obtain ⟨x0,x1,x2,x3,x4,x5,x6,z2⟩:=cells7 y
  clear hb y
  go_wp2_with fail
  refine (K2.out _ HB2.out).mono ?_
  rintro e w3 ⟨rfl,hb⟩
  have HB3:=Lh (HB2.out.trans (hb.mono HB2.out.size))
  have y:=E2.out.below hb E2.out.lt
  have E3:=Lh y
  obtain ⟨x0,x1,x2,x3,x4,x5,x6,z3⟩:=cells7 y
  clear hb y
  go_wp2_with fail
  refine (K3.out _ HB3.out).mono ?_
  rintro e w4 ⟨rfl,hb⟩
  have HB4:=Lh (HB3.out.trans (hb.mono HB3.out.size))
  have y:=E3.out.below hb E3.out.lt
  have E4:=Lh y
  obtain ⟨x0,x1,x2,x3,x4,x5,x6,z4⟩:=cells7 y
  clear hb y
  go_wp2_with fail
  refine (K4.out _ HB4.out).mono ?_
  rintro e w5 ⟨rfl,hb⟩
  have HB5:=Lh (HB4.out.trans (hb.mono HB4.out.size))
  have y:=E4.out.below hb E4.out.lt
  have E5:=Lh y
  obtain ⟨x0,x1,x2,x3,x4,x5,x6,z5⟩:=cells7 y
  clear hb y
  go_wp2_with fail
  go_ret
  exact ⟨ret_bool HR.out.symm,HB5.out⟩
 | false=>
 rw[q5] at hR
 have HR:Hid (R=qs.all Sx.reqOk):=Lh (by rw [hR];simp)
 clear hR
 go_enter Tryz.func125,Tryz.ntmps125
 go_wp2_with fail
 refine (K0.out _ HB0.out).mono ?_
 rintro e w1 ⟨rfl,hb⟩
 have HB1:=Lh (HB0.out.trans (hb.mono HB0.out.size))
 have y:=E0.out.below hb E0.out.lt
 have E1:=Lh y
 obtain ⟨x0,x1,x2,x3,x4,x5,x6,z1⟩:=cells7 y
 clear hb y
 go_wp2_with fail
 refine (K1.out _ HB1.out).mono ?_
 rintro e w2 ⟨rfl,hb⟩
 have HB2:=Lh (HB1.out.trans (hb.mono HB1.out.size))
 have y:=E1.out.below hb E1.out.lt
 have E2:=Lh y
 obtain ⟨x0,x1,x2,x3,x4,x5,x6,z2⟩:=cells7 y
 clear hb y
 go_wp2_with fail
 refine (K2.out _ HB2.out).mono ?_
 rintro e w3 ⟨rfl,hb⟩
 have HB3:=Lh (HB2.out.trans (hb.mono HB2.out.size))
 have y:=E2.out.below hb E2.out.lt
 have E3:=Lh y
 obtain ⟨x0,x1,x2,x3,x4,x5,x6,z3⟩:=cells7 y
 clear hb y
 go_wp2_with fail
 refine (K3.out _ HB3.out).mono ?_
 rintro e w4 ⟨rfl,hb⟩
 have HB4:=Lh (HB3.out.trans (hb.mono HB3.out.size))
 have y:=E3.out.below hb E3.out.lt
 have E4:=Lh y
 obtain ⟨x0,x1,x2,x3,x4,x5,x6,z4⟩:=cells7 y
 clear hb y
 go_wp2_with fail
 refine (K4.out _ HB4.out).mono ?_
 rintro e w5 ⟨rfl,hb⟩
 have HB5:=Lh (HB4.out.trans (hb.mono HB4.out.size))
 have y:=E4.out.below hb E4.out.lt
 have E5:=Lh y
 obtain ⟨x0,x1,x2,x3,x4,x5,x6,z5⟩:=cells7 y
 clear hb y
 go_wp2_with fail
 refine (Hall.out _ HB5.out).mono ?_
 rintro e w9 ⟨rfl,hb⟩
 have HB9:=Lh (HB5.out.trans (hb.mono HB5.out.size))
 clear hb
 go_wp2_with fail
 go_ret
 exact ⟨ret_bool HR.out.symm,HB9.out⟩
theorem okProg (x:Sx.Prog) (cs:List Value) (w:World) (h:ProgAt w (Old w) x cs):Calls Tryz.prog 125 #[.agg cs.toArray] w (BoolPost (Sx.progOk x) w):=by
 obtain ⟨A,c,rfl,hn,h1⟩:=h
 have e:Sx.progOk x=(Sx.inB x.number 0 255 && Lx.isName x.name && Sx.inB x.uses 1 4 && Sx.inB x.earn 0 10000 && Sx.Ratio.fine ⟨x.mean.num,x.mean.den⟩ && !decide ((64:Int) < (x.reqs.length:Int)) && x.reqs.all Sx.reqOk):=by
  unfold Sx.progOk
  have e1:decide (x.reqs.length≤64) = !decide ((64:Int) < (x.reqs.length:Int)):=by rw [Bool.eq_iff_iff];simp;omega
  rw[e1]
 rw[e]
 exact okProg0 x.name x.number x.uses x.earn x.mean.num x.mean.den x.reqs A c _ rfl hn w h1
theorem okPair (x:Sx.Pair) (cs:List Value) (w:World) (h:PairAt x cs):Calls Tryz.prog 115 #[.agg cs.toArray] w (BoolPost (Sx.pairOk x) w):=by
 obtain ⟨rfl,h1,h2⟩:=h
 exact okPair0 x.a x.b x.x x.y h1 h2 w
theorem okFee (x:Sx.Fee) (cs:List Value) (w:World) (h:FeeAt x cs):Calls Tryz.prog 117 #[.agg cs.toArray] w (BoolPost (Sx.feeOk x) w):=by
 obtain ⟨rfl,h1⟩:=h
 exact okFee0 x.name x.credits h1 w
theorem okClause (x:Sx.Clause) (cs:List Value) (w:World) (h:ClauseAt x cs):Calls Tryz.prog 120 #[.agg cs.toArray] w (BoolPost (Sx.clauseOk x) w):=by
 unfold ClauseAt at h
 subst h
 exact okClause0 x.kind x.when_ x.action x.til w
theorem okCls (x:Sx.Cls) (cs:List Value) (w:World) (h:ClsAt x cs):Calls Tryz.prog 127 #[.agg cs.toArray] w (BoolPost (Sx.clsOk x) w):=by
 obtain ⟨rfl,h1⟩:=h
 exact okCls0 x.name x.earn x.mean.num x.mean.den h1 w
end Go.Proofs.YtjonaidancomgaaGreatDoor
