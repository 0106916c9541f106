/- Parts of the proof, joined into one text: WI, Yl. -/
import Derived.Test.YtjonaidancomgaaGreatDoorPSxAll
import Derived.Test.YtjonaidancomgaaGreatDoorPSxRd
import Derived.Test.YtjonaidancomgaaGreatDoorPLxI
import Derived.BigQuiet
set_option maxHeartbeats 8000000
set_option maxRecDepth 20000
namespace Go.Proofs.YtjonaidancomgaaGreatDoor
open Go.RowKit
theorem Nl (a b:List UInt8) (x y:Int) (ha:a.length≤140737488351232) (hb:b.length≤140737488351232) (w:World) :
  Calls Tryz.prog 115 #[.agg #[.string (Lx.bs a),.string (Lx.bs b),.int .i64 x,.int .i64 y]] w (ak (Sx.bQ a x && Sx.bQ b y) w):=by
 obtain ⟨R,hR⟩:∃ R:Bool,R=(Sx.bQ a x && Sx.bQ b y):=⟨_,rfl⟩
 rw[←hR];have hb0:Below w.heap.size w (w.alloc (.cells #[.string (Lx.bs a),.string (Lx.bs b),.int .i64 x,.int .i64 y] 71)):=(Below.refl _ _).alloc (Nat.le_refl _) _;have e0:aC (w.alloc (.cells #[.string (Lx.bs a),.string (Lx.bs b),.int .i64 x,.int .i64 y] 71)) w.heap.size 71 #[.string (Lx.bs a),.string (Lx.bs b),.int .i64 x,.int .i64 y]:=aC.new _ _ _;have HB0:=Lh hb0;have E0:=Lh e0;clear hb0 e0;have K0:=Lh (fun (W:World) (_:Below w.heap.size w W)=>uh a x W ha);have K1:=Lh (fun (W:World) (_:Below w.heap.size w W)=>uh b y W hb);have HR:=Lh hR;clear hR;go_enter Tryz.func115,Tryz.ntmps115
 go_wp2_with fail;refine (K0.out _ HB0.out).mono ?_;rintro e w1 ⟨rfl,hb⟩;have HB1:=Lh (HB0.out.trans (hb.mono HB0.out.size));have y:=E0.out.below hb E0.out.lt;have E1:=Lh y;obtain ⟨x0,x1,x2,x3,z1⟩:=fB y;clear hb y;cases q0:Sx.bQ a x with
 | false=>
  have HF:Hid (R=false):=Lh (by rw [HR.out,q0];simp);go_wp2_with fail;go_ret;exact ⟨aj HF.out.symm,HB1.out⟩
 | true=>
 have Q0:=Lh q0;clear q0;go_wp2_with fail;refine (K1.out _ HB1.out).mono ?_;rintro e w2 ⟨rfl,hb⟩;have HB2:=Lh (HB1.out.trans (hb.mono HB1.out.size));have y:=E1.out.below hb E1.out.lt;have E2:=Lh y;obtain ⟨x0,x1,x2,x3,z2⟩:=fB y;clear hb y;have hR:=HR.out;clear HR;rw[Q0.out] at hR;have HT:Hid (R=(Sx.bQ b y)):=Lh (by rw [hR];simp);clear hR;go_wp2_with fail;go_ret;exact ⟨aj HT.out.symm,HB2.out⟩
theorem Qt (nm:List UInt8) (cr:Int) (hn:nm.length≤140737488351232) (w:World) :
  Calls Tryz.prog 117 #[.agg #[.string (Lx.bs nm),.int .i64 cr]] w (ak (Lx.isName nm && Sx.dX cr 0 10000) w):=by
 obtain ⟨R,hR⟩:∃ R:Bool,R=(Lx.isName nm && Sx.dX cr 0 10000):=⟨_,rfl⟩
 rw[←hR];have hb0:Below w.heap.size w (w.alloc (.cells #[.string (Lx.bs nm),.int .i64 cr] 86)):=(Below.refl _ _).alloc (Nat.le_refl _) _;have e0:aC (w.alloc (.cells #[.string (Lx.bs nm),.int .i64 cr] 86)) w.heap.size 86 #[.string (Lx.bs nm),.int .i64 cr]:=aC.new _ _ _;have HB0:=Lh hb0;have E0:=Lh e0;clear hb0 e0;have K0:=Lh (fun (W:World) (_:Below w.heap.size w W)=>uj nm W hn);have K1:=Lh (fun (W:World) (_:Below w.heap.size w W)=>AJ cr 0 10000 W);have HR:=Lh hR;clear hR;go_enter Tryz.func117,Tryz.ntmps117;go_wp2_with fail;refine (K0.out _ HB0.out).mono ?_;rintro e w1 ⟨rfl,hb⟩
 have HB1:=Lh (HB0.out.trans (hb.mono HB0.out.size));have y:=E0.out.below hb E0.out.lt;have E1:=Lh y;obtain ⟨x0,x1,z1⟩:=AL y;clear hb y;cases q0:Lx.isName nm with
 | false=>
  have HF:Hid (R=false):=Lh (by rw [HR.out,q0];simp);go_wp2_with fail;go_ret;exact ⟨aj HF.out.symm,HB1.out⟩
 | true=>
 have Q0:=Lh q0;clear q0;go_wp2_with fail;refine (K1.out _ HB1.out).mono ?_;rintro e w2 ⟨rfl,hb⟩;have HB2:=Lh (HB1.out.trans (hb.mono HB1.out.size));have y:=E1.out.below hb E1.out.lt;have E2:=Lh y;obtain ⟨x0,x1,z2⟩:=AL y;clear hb y;have hR:=HR.out;clear HR;rw[Q0.out] at hR;have HT:Hid (R=(Sx.dX cr 0 10000)):=Lh (by rw [hR];simp);clear hR;go_wp2_with fail;go_ret;exact ⟨aj HT.out.symm,HB2.out⟩
theorem G8 (k wn a u:Int) (w:World) :
  Calls Tryz.prog 120 #[.agg #[.int .i64 k,.int .i64 wn,.int .i64 a,.int .i64 u]] w (ak (Sx.dX k 1 5 && Sx.dX wn 0 2 && Sx.dX a 1 3 && Sx.dX u 0 12) w):=by
 obtain ⟨R,hR⟩:∃ R:Bool,R=(Sx.dX k 1 5 && Sx.dX wn 0 2 && Sx.dX a 1 3 && Sx.dX u 0 12):=⟨_,rfl⟩
 rw[←hR];have hb0:Below w.heap.size w (w.alloc (.cells #[.int .i64 k,.int .i64 wn,.int .i64 a,.int .i64 u] 90)):=(Below.refl _ _).alloc (Nat.le_refl _) _;have e0:aC (w.alloc (.cells #[.int .i64 k,.int .i64 wn,.int .i64 a,.int .i64 u] 90)) w.heap.size 90 #[.int .i64 k,.int .i64 wn,.int .i64 a,.int .i64 u]:=aC.new _ _ _;have HB0:=Lh hb0;have E0:=Lh e0;clear hb0 e0;have K0:=Lh (fun (W:World) (_:Below w.heap.size w W)=>AJ k 1 5 W);have K1:=Lh (fun (W:World) (_:Below w.heap.size w W)=>AJ wn 0 2 W);have K2:=Lh (fun (W:World) (_:Below w.heap.size w W)=>AJ a 1 3 W)
 have K3:=Lh (fun (W:World) (_:Below w.heap.size w W)=>AJ u 0 12 W);have HR:=Lh hR;clear hR;go_enter Tryz.func120,Tryz.ntmps120;go_wp2_with fail;refine (K0.out _ HB0.out).mono ?_;rintro e w1 ⟨rfl,hb⟩;have HB1:=Lh (HB0.out.trans (hb.mono HB0.out.size));have y:=E0.out.below hb E0.out.lt;have E1:=Lh y;obtain ⟨x0,x1,x2,x3,z1⟩:=fB y;clear hb y;cases q0:Sx.dX k 1 5 with
 | false=>
  have HF:Hid (R=false):=Lh (by rw [HR.out,q0];simp);go_wp2_with fail;go_ret;exact ⟨aj HF.out.symm,HB1.out⟩
 | true=>
 have Q0:=Lh q0;clear q0;go_wp2_with fail;refine (K1.out _ HB1.out).mono ?_;rintro e w2 ⟨rfl,hb⟩;have HB2:=Lh (HB1.out.trans (hb.mono HB1.out.size));have y:=E1.out.below hb E1.out.lt;have E2:=Lh y;obtain ⟨x0,x1,x2,x3,z2⟩:=fB y;clear hb y;cases q1:Sx.dX wn 0 2 with
 | false=>
  have HF:Hid (R=false):=Lh (by rw [HR.out,Q0.out,q1];simp);go_wp2_with fail;go_ret;exact ⟨aj HF.out.symm,HB2.out⟩
 | true=>
 have Q1:=Lh q1;clear q1;go_wp2_with fail;refine (K2.out _ HB2.out).mono ?_;rintro e w3 ⟨rfl,hb⟩;have HB3:=Lh (HB2.out.trans (hb.mono HB2.out.size));have y:=E2.out.below hb E2.out.lt;have E3:=Lh y;obtain ⟨x0,x1,x2,x3,z3⟩:=fB y;clear hb y;cases q2:Sx.dX a 1 3 with
 | false=>
  have HF:Hid (R=false):=Lh (by rw [HR.out,Q0.out,Q1.out,q2];simp);go_wp2_with fail;go_ret;exact ⟨aj HF.out.symm,HB3.out⟩
 | true=>
 have Q2:=Lh q2;clear q2;go_wp2_with fail;refine (K3.out _ HB3.out).mono ?_;rintro e w4 ⟨rfl,hb⟩;have oP:=Lh (HB3.out.trans (hb.mono HB3.out.size));have y:=E3.out.below hb E3.out.lt;have E4:=Lh y;obtain ⟨x0,x1,x2,x3,z4⟩:=fB y;clear hb y;have hR:=HR.out;clear HR;rw[Q0.out,Q1.out,Q2.out] at hR;have HT:Hid (R=(Sx.dX u 0 12)):=Lh (by rw [hR];simp);clear hR;go_wp2_with fail;go_ret;exact ⟨aj HT.out.symm,oP.out⟩
theorem Qu (nm:List UInt8) (ea n d:Int) (hn:nm.length≤140737488351232) (w:World) :
  Calls Tryz.prog 127 #[.agg #[.string (Lx.bs nm),.int .i64 ea,.int .i64 n,.int .i64 d]] w (ak (Lx.isName nm && Sx.dX ea 0 10000 && Sx.bL.fine ⟨n,d⟩) w):=by
 obtain ⟨R,hR⟩:∃ R:Bool,R=(Lx.isName nm && Sx.dX ea 0 10000 && Sx.bL.fine ⟨n,d⟩):=⟨_,rfl⟩
 rw[←hR];have hb0:Below w.heap.size w (w.alloc (.cells #[.string (Lx.bs nm),.int .i64 ea,.int .i64 n,.int .i64 d] 82)):=(Below.refl _ _).alloc (Nat.le_refl _) _;have e0:aC (w.alloc (.cells #[.string (Lx.bs nm),.int .i64 ea,.int .i64 n,.int .i64 d] 82)) w.heap.size 82 #[.string (Lx.bs nm),.int .i64 ea,.int .i64 n,.int .i64 d]:=aC.new _ _ _;have HB0:=Lh hb0;have E0:=Lh e0;clear hb0 e0;have K0:=Lh (fun (W:World) (_:Below w.heap.size w W)=>uj nm W hn);have K1:=Lh (fun (W:World) (_:Below w.heap.size w W)=>AJ ea 0 10000 W);have K2:=Lh (fun (W:World) (_:Below w.heap.size w W)=>Ka n d W)
 have HR:=Lh hR;clear hR;go_enter Tryz.func127,Tryz.ntmps127;go_wp2_with fail;refine (K0.out _ HB0.out).mono ?_;rintro e w1 ⟨rfl,hb⟩;have HB1:=Lh (HB0.out.trans (hb.mono HB0.out.size));have y:=E0.out.below hb E0.out.lt;have E1:=Lh y;obtain ⟨x0,x1,x2,x3,z1⟩:=fB y;clear hb y;cases q0:Lx.isName nm with
 | false=>
  have HF:Hid (R=false):=Lh (by rw [HR.out,q0];simp);go_wp2_with fail;go_ret;exact ⟨aj HF.out.symm,HB1.out⟩
 | true=>
 have Q0:=Lh q0;clear q0;go_wp2_with fail;refine (K1.out _ HB1.out).mono ?_;rintro e w2 ⟨rfl,hb⟩;have HB2:=Lh (HB1.out.trans (hb.mono HB1.out.size));have y:=E1.out.below hb E1.out.lt;have E2:=Lh y;obtain ⟨x0,x1,x2,x3,z2⟩:=fB y;clear hb y;cases q1:Sx.dX ea 0 10000 with
 | false=>
  have HF:Hid (R=false):=Lh (by rw [HR.out,Q0.out,q1];simp);go_wp2_with fail;go_ret;exact ⟨aj HF.out.symm,HB2.out⟩
 | true=>
 have Q1:=Lh q1;clear q1;go_wp2_with fail;refine (K2.out _ HB2.out).mono ?_;rintro e w3 ⟨rfl,hb⟩;have HB3:=Lh (HB2.out.trans (hb.mono HB2.out.size));have y:=E2.out.below hb E2.out.lt;have E3:=Lh y;obtain ⟨x0,x1,x2,x3,z3⟩:=fB y;clear hb y;have hR:=HR.out;clear HR;rw[Q0.out,Q1.out] at hR;have HT:Hid (R=(Sx.bL.fine ⟨n,d⟩)):=Lh (by rw [hR];simp);clear hR;go_wp2_with fail;go_ret;exact ⟨aj HT.out.symm,HB3.out⟩
theorem Qv (nm:List UInt8) (cr gr:Int) (hm:Bool) (ns:List (List UInt8)) (fs:List Int) (A B:Option Addr) (c d m m2:Nat) (hm1:m=ns.length) (hm2:m2=fs.length) (hn:nm.length≤140737488351232) (w:World) (hns:Row w (Old w) A 1 qM ns) (hfs:Row w (Old w) B 1 (lT aT) fs) :
  Calls Tryz.prog 181 #[.agg #[.string (Lx.bs nm),.int .i64 cr,.int .i64 gr,.bool hm,.slice A m c,.slice B m2 d]] w (ak (Lx.isName nm && Sx.dX cr 1 10000 && Sx.dX gr 0 12 && !((m:Int) == 0) && !((m:Int) != (m2:Int)) && (ns.zip fs).all fun p=>Sx.bQ p.1 p.2) w):=by
 obtain ⟨R,hR⟩:∃ R:Bool,R=(Lx.isName nm && Sx.dX cr 1 10000 && Sx.dX gr 0 12 && !((m:Int) == 0) && !((m:Int) != (m2:Int)) && (ns.zip fs).all fun p=>Sx.bQ p.1 p.2):=⟨_,rfl⟩
 rw[←hR];have hb0:Below w.heap.size w (w.alloc (.cells #[.string (Lx.bs nm),.int .i64 cr,.int .i64 gr,.bool hm,.slice A m c,.slice B m2 d] 108)):=(Below.refl _ _).alloc (Nat.le_refl _) _;have e0:aC (w.alloc (.cells #[.string (Lx.bs nm),.int .i64 cr,.int .i64 gr,.bool hm,.slice A m c,.slice B m2 d] 108)) w.heap.size 108 #[.string (Lx.bs nm),.int .i64 cr,.int .i64 gr,.bool hm,.slice A m c,.slice B m2 d]:=aC.new _ _ _;have HB0:=Lh hb0;have E0:=Lh e0;clear hb0 e0;have Hm:=Lh hm1;have G9:=Lh hm2;have Hns:=Lh hns;have Hfs:=Lh hfs;have hz:=hns.len;rw[←hm1] at hz;clear hm1 hm2 hns hfs
 have K0:=Lh (fun (W:World) (_:Below w.heap.size w W)=>uj nm W hn);have K1:=Lh (fun (W:World) (_:Below w.heap.size w W)=>AJ cr 1 10000 W);have K2:=Lh (fun (W:World) (_:Below w.heap.size w W)=>AJ gr 0 12 W);have HR:=Lh hR;clear hR;go_enter Tryz.func181,Tryz.ntmps181;go_wp2_with fail;refine (K0.out _ HB0.out).mono ?_;rintro e w1 ⟨rfl,hb⟩;have HB1:=Lh (HB0.out.trans (hb.mono HB0.out.size));have y:=E0.out.below hb E0.out.lt;have E1:=Lh y;obtain ⟨x0,x1,x2,x3,x4,x5,z1⟩:=aQ y;clear hb y;cases q0:Lx.isName nm with
 | false=>
  have HF:Hid (R=false):=Lh (by rw [HR.out,q0];simp);go_wp2_with fail;go_ret;exact ⟨aj HF.out.symm,HB1.out⟩
 | true=>
 have Q0:=Lh q0;clear q0;go_wp2_with fail;refine (K1.out _ HB1.out).mono ?_;rintro e w2 ⟨rfl,hb⟩;have HB2:=Lh (HB1.out.trans (hb.mono HB1.out.size));have y:=E1.out.below hb E1.out.lt;have E2:=Lh y;obtain ⟨x0,x1,x2,x3,x4,x5,z2⟩:=aQ y;clear hb y;cases q1:Sx.dX cr 1 10000 with
 | false=>
  have HF:Hid (R=false):=Lh (by rw [HR.out,Q0.out,q1];simp);go_wp2_with fail;go_ret;exact ⟨aj HF.out.symm,HB2.out⟩
 | true=>
 have Q1:=Lh q1;clear q1;go_wp2_with fail;refine (K2.out _ HB2.out).mono ?_;rintro e w3 ⟨rfl,hb⟩;have HB3:=Lh (HB2.out.trans (hb.mono HB2.out.size));have y:=E2.out.below hb E2.out.lt;have E3:=Lh y;obtain ⟨x0,x1,x2,x3,x4,x5,z3⟩:=aQ y;clear hb y;cases q2:Sx.dX gr 0 12 with
 | false=>
  have HF:Hid (R=false):=Lh (by rw [HR.out,Q0.out,Q1.out,q2];simp);go_wp2_with fail;go_ret;exact ⟨aj HF.out.symm,HB3.out⟩
 | true=>
 have Q2:=Lh q2;clear q2;cases q3:((m:Int) == 0) with
 | true=>
  have HF:Hid (R=false):=Lh (by rw [HR.out,Q0.out,Q1.out,Q2.out,q3];simp);go_wp2_with fail;go_ret;exact ⟨aj HF.out.symm,HB3.out⟩
 | false=>
 cases q4:((m:Int) != (m2:Int)) with
 | true=>
  have HF:Hid (R=false):=Lh (by rw [HR.out,Q0.out,Q1.out,Q2.out,q3,q4];simp);go_wp2_with fail;go_ret;exact ⟨aj HF.out.symm,HB3.out⟩
 | false=>
 have hR:=HR.out;clear HR;rw[Q0.out,Q1.out,Q2.out,q3,q4] at hR;obtain rfl:m=m2:=by have:(m:Int)=m2:=(by simpa using q4);omega
 have HR:Hid (R=(ns.zip fs).all fun p=>Sx.bQ p.1 p.2):=Lh (by rw [hR];simp);clear hR;go_wp2_with fail
 go_loopg [39] m (fun gk v39 wr=>∃ i:Nat,v39 = .int .i64 i∧i+gk=m∧Hid (Below w.heap.size w wr)∧Hid (aC wr w.heap.size 108 #[.string (Lx.bs nm),.int .i64 cr,.int .i64 gr,.bool hm,.slice A m c,.slice B m d])∧Hid (∀ j,j < i→∀ x n,ns[j]?=some x→fs[j]?=some n→Sx.bQ x n=true))
 case atStart=>exact ⟨0,rfl,by omega,HB3,E3,Lh (fun j hj=>absurd hj (Nat.not_lt_zero j))⟩
 case round=>
  obtain ⟨i,rfl,hi,Hb,He,dQ⟩:=hrel;have hws:=Hb.out.size;have z:=He.out.lt;have x5:=He.out.cell 5;simp at x5
  by_cases hlt:i < m
  ·obtain ⟨x,hx⟩:∃ x,ns[i]?=some x:=⟨_,List.getElem?_eq_getElem (by have:=Hm.out;omega)⟩
   obtain ⟨f,hf⟩:∃ f,fs[i]?=some f:=⟨_,List.getElem?_eq_getElem (by have:=G9.out;omega)⟩
   have Hx:=Lh hx;have Hf:=Lh hf;obtain ⟨bk,ok,cs,rfl,hS,hP,hck⟩:=Hns.out.at_ i x hx;obtain ⟨bf,of,cf,rfl,BH,hPf,hcf⟩:=Hfs.out.at_ i f hf;obtain ⟨rfl,hxl⟩:=hP;unfold lT at hPf;subst hPf;have k0:=(Hb.out.cell (p:=⟨bk,_,none⟩) hS).trans (hck 0 _ rfl);have f0:=(Hb.out.cell (p:=⟨bf,_,none⟩) BH).trans (hcf 0 _ rfl);simp only[Nat.add_zero,Nat.mul_one,bB,aT] at k0 f0;have aH:=Lh (uh x f wr hxl);clear hck hcf hx hf;cases hq:Sx.bQ x f with
   | false=>
    rw[hq] at aH;have HR2:Hid (R=false):=Lh (by
     rw[HR.out,List.all_eq_false];exact ⟨(x,f),List.mem_of_getElem? (i:=i) (by rw [List.getElem?_zip_eq_some];exact ⟨Hx.out,Hf.out⟩),by simp [hq]⟩)
    clear hq;go_wp2_with fail;refine aH.out.mono ?_;rintro e w5 ⟨rfl,hb5⟩;have Hb5:=Lh hb5;clear hb5;go_wp2_with fail;go_ret;exact ⟨aj HR2.out.symm,Hb.out.trans (Hb5.out.mono hws)⟩
   | true=>
    rw[hq] at aH;have Hq:=Lh hq;clear hq;go_wp2_with fail;refine aH.out.mono ?_;rintro e w5 ⟨rfl,hb5⟩;have Hb5:=Lh hb5;clear hb5;go_wp2_with fail
    go_roundg (gk - 1)
    all_goals first
     | omega
     | exact ⟨i+1,by go_num,by omega,Lh (Hb.out.trans (Hb5.out.mono hws)),Lh (He.out.below Hb5.out He.out.lt),Lh (fun j hj y n h1 h2=>by
       rcases Nat.lt_or_ge j i with h3 | h3
       ·exact dQ.out j h3 y n h1 h2
       ·obtain rfl:j=i:=by omega
        rw[Hx.out] at h1;rw[Hf.out] at h2;injection h1 with h1;injection h2 with h2;rw[←h1,←h2];exact Hq.out)⟩
  ·obtain rfl:i=m:=by omega
   have HR2:Hid (R=true):=Lh (by
    rw[HR.out,List.all_eq_true];rintro ⟨y,n⟩ hy;obtain ⟨j,hj⟩:=List.mem_iff_getElem?.1 hy;rw[List.getElem?_zip_eq_some] at hj;exact dQ.out j (by have:=(List.getElem?_eq_some_iff.1 hj.1).1;have:=Hm.out;omega) y n hj.1 hj.2)
   go_wp2_with fail;go_ret;exact ⟨aj HR2.out.symm,Hb.out⟩
theorem UQ (x:Sx.iK) (cs:List Value) (w:World) (h:bW w (Old w) x cs):Calls Tryz.prog 181 #[.agg cs.toArray] w (ak (Sx.fG x) w):=by
 obtain ⟨A,c,B,d,rfl,hn,h1,h2⟩:=h;have e:Sx.fG x=(Lx.isName x.name && Sx.dX x.aU 1 10000 && Sx.dX x.gX 0 12 && !((x.names.length:Int) == 0) && !((x.names.length:Int) != (x.froms.length:Int)) && (x.names.zip x.froms).all fun p=>Sx.bQ p.1 p.2):=by
  unfold Sx.fG;have e1:(!x.names.isEmpty) = !((x.names.length:Int) == 0):=by cases x.names <;> simp;omega
  have e2:(x.names.length == x.froms.length) = !((x.names.length:Int) != (x.froms.length:Int)):=by
   rw[Bool.eq_iff_iff];simp;omega
  rw[e1,e2]
 rw[e];exact Qv x.name x.aU x.gX x.home x.names x.froms A B c d _ _ rfl rfl hn w h1 h2
theorem Nn (nm:List UInt8) (no us ea n d:Int) (qs:List Sx.iK) (A:Option Addr) (c m:Nat) (hm:m=qs.length) (hn:nm.length≤140737488351232) (w:World) (hq:Row w (Old w) A 6 (bW w (Old w)) qs) :
  Calls Tryz.prog 125 #[.agg #[.string (Lx.bs nm),.int .i64 no,.int .i64 us,.int .i64 ea,.int .i64 n,.int .i64 d,.slice A m c]] w (ak (Sx.dX no 0 255 && Lx.isName nm && Sx.dX us 1 4 && Sx.dX ea 0 10000 && Sx.bL.fine ⟨n,d⟩ && !decide ((64:Int) < (m:Int)) && qs.all Sx.fG) w):=by
 obtain ⟨R,hR⟩:∃ R:Bool,R=(Sx.dX no 0 255 && Lx.isName nm && Sx.dX us 1 4 && Sx.dX ea 0 10000 && Sx.bL.fine ⟨n,d⟩ && !decide ((64:Int) < (m:Int)) && qs.all Sx.fG):=⟨_,rfl⟩
 rw[←hR];have hb0:Below w.heap.size w (w.alloc (.cells #[.string (Lx.bs nm),.int .i64 no,.int .i64 us,.int .i64 ea,.int .i64 n,.int .i64 d,.slice A m c] 78)):=(Below.refl _ _).alloc (Nat.le_refl _) _;have e0:aC (w.alloc (.cells #[.string (Lx.bs nm),.int .i64 no,.int .i64 us,.int .i64 ea,.int .i64 n,.int .i64 d,.slice A m c] 78)) w.heap.size 78 #[.string (Lx.bs nm),.int .i64 no,.int .i64 us,.int .i64 ea,.int .i64 n,.int .i64 d,.slice A m c]:=aC.new _ _ _;have HB0:=Lh hb0;have E0:=Lh e0;clear hb0 e0
 have aX:Hid (∀ W,Below w.heap.size w W→Calls Tryz.prog 180 #[.slice A m c,.func (.func 181) #[] #[]] W (ak (qs.all Sx.fG) W)):=Lh (fun W hW=>by
  rw[hm];exact Ng A c qs Sx.fG W (hq.keep (P':=bW W (Old W)) (aG hW) fun _ _ _ h=>jF hW h) (fun x _ cs W' _ h=>UQ x cs W' h))
 clear hm hq;have K0:=Lh (fun (W:World) (_:Below w.heap.size w W)=>AJ no 0 255 W);have K1:=Lh (fun (W:World) (_:Below w.heap.size w W)=>uj nm W hn);have K2:=Lh (fun (W:World) (_:Below w.heap.size w W)=>AJ us 1 4 W);have K3:=Lh (fun (W:World) (_:Below w.heap.size w W)=>AJ ea 0 10000 W);have K4:=Lh (fun (W:World) (_:Below w.heap.size w W)=>Ka n d W);have HR:=Lh hR;clear hR;go_enter Tryz.func125,Tryz.ntmps125;go_wp2_with fail;refine (K0.out _ HB0.out).mono ?_;rintro e w1 ⟨rfl,hb⟩;have HB1:=Lh (HB0.out.trans (hb.mono HB0.out.size));have y:=E0.out.below hb E0.out.lt;have E1:=Lh y
 obtain ⟨x0,x1,x2,x3,x4,x5,x6,z1⟩:=bJ y;clear hb y;cases q0:Sx.dX no 0 255 with
 | false=>
  have HF:Hid (R=false):=Lh (by rw [HR.out,q0];simp);go_wp2_with fail;go_ret;exact ⟨aj HF.out.symm,HB1.out⟩
 | true=>
 have Q0:=Lh q0;clear q0;go_wp2_with fail;refine (K1.out _ HB1.out).mono ?_;rintro e w2 ⟨rfl,hb⟩;have HB2:=Lh (HB1.out.trans (hb.mono HB1.out.size));have y:=E1.out.below hb E1.out.lt;have E2:=Lh y;obtain ⟨x0,x1,x2,x3,x4,x5,x6,z2⟩:=bJ y;clear hb y;cases q1:Lx.isName nm with
 | false=>
  have HF:Hid (R=false):=Lh (by rw [HR.out,Q0.out,q1];simp);go_wp2_with fail;go_ret;exact ⟨aj HF.out.symm,HB2.out⟩
 | true=>
 have Q1:=Lh q1;clear q1;go_wp2_with fail;refine (K2.out _ HB2.out).mono ?_;rintro e w3 ⟨rfl,hb⟩;have HB3:=Lh (HB2.out.trans (hb.mono HB2.out.size));have y:=E2.out.below hb E2.out.lt;have E3:=Lh y;obtain ⟨x0,x1,x2,x3,x4,x5,x6,z3⟩:=bJ y;clear hb y;cases q2:Sx.dX us 1 4 with
 | false=>
  have HF:Hid (R=false):=Lh (by rw [HR.out,Q0.out,Q1.out,q2];simp);go_wp2_with fail;go_ret;exact ⟨aj HF.out.symm,HB3.out⟩
 | true=>
 have Q2:=Lh q2;clear q2;go_wp2_with fail;refine (K3.out _ HB3.out).mono ?_;rintro e w4 ⟨rfl,hb⟩;have oP:=Lh (HB3.out.trans (hb.mono HB3.out.size));have y:=E3.out.below hb E3.out.lt;have E4:=Lh y;obtain ⟨x0,x1,x2,x3,x4,x5,x6,z4⟩:=bJ y;clear hb y;cases q3:Sx.dX ea 0 10000 with
 | false=>
  have HF:Hid (R=false):=Lh (by rw [HR.out,Q0.out,Q1.out,Q2.out,q3];simp);go_wp2_with fail;go_ret;exact ⟨aj HF.out.symm,oP.out⟩
 | true=>
 have Q3:=Lh q3;clear q3;go_wp2_with fail;refine (K4.out _ oP.out).mono ?_;rintro e w5 ⟨rfl,hb⟩;have rY:=Lh (oP.out.trans (hb.mono oP.out.size));have y:=E4.out.below hb E4.out.lt;have E5:=Lh y;obtain ⟨x0,x1,x2,x3,x4,x5,x6,z5⟩:=bJ y;clear hb y;cases q4:Sx.bL.fine ⟨n,d⟩ with
 | false=>
  have HF:Hid (R=false):=Lh (by rw [HR.out,Q0.out,Q1.out,Q2.out,Q3.out,q4];simp);go_wp2_with fail;go_ret;exact ⟨aj HF.out.symm,rY.out⟩
 | true=>
 have Q4:=Lh q4;clear q4;cases q5:decide ((64:Int) < (m:Int)) with
 | true=>
  have HF:Hid (R=false):=Lh (by rw [HR.out,Q0.out,Q1.out,Q2.out,Q3.out,Q4.out,q5];simp);go_wp2_with fail;go_ret;exact ⟨aj HF.out.symm,rY.out⟩
 | false=>
 have hR:=HR.out;clear HR;rw[Q0.out,Q1.out,Q2.out,Q3.out,Q4.out,q5] at hR;have HR:Hid (R=qs.all Sx.fG):=Lh (by rw [hR];simp);clear hR;go_wp2_with fail;refine (aX.out _ rY.out).mono ?_;rintro e w9 ⟨rfl,hb⟩;have AO:=Lh (rY.out.trans (hb.mono rY.out.size));clear hb;go_wp2_with fail;go_ret;exact ⟨aj HR.out.symm,AO.out⟩
theorem Qw (x:Sx.Prog) (cs:List Value) (w:World) (h:bS w (Old w) x cs):Calls Tryz.prog 125 #[.agg cs.toArray] w (ak (Sx.dW x) w):=by
 obtain ⟨A,c,rfl,hn,h1⟩:=h;have e:Sx.dW x=(Sx.dX x.number 0 255 && Lx.isName x.name && Sx.dX x.uses 1 4 && Sx.dX x.gD 0 10000 && Sx.bL.fine ⟨x.mean.num,x.mean.den⟩ && !decide ((64:Int) < (x.reqs.length:Int)) && x.reqs.all Sx.fG):=by
  unfold Sx.dW;have e1:decide (x.reqs.length≤64) = !decide ((64:Int) < (x.reqs.length:Int)):=by rw [Bool.eq_iff_iff];simp;omega
  rw[e1]
 rw[e];exact Nn x.name x.number x.uses x.gD x.mean.num x.mean.den x.reqs A c _ rfl hn w h1
theorem Qx (x:Sx.Pair) (cs:List Value) (w:World) (h:fq x cs):Calls Tryz.prog 115 #[.agg cs.toArray] w (ak (Sx.gW x) w):=by
 obtain ⟨rfl,h1,h2⟩:=h;exact Nl x.a x.b x.x x.y h1 h2 w
theorem UR (x:Sx.tL) (cs:List Value) (w:World) (h:gG x cs):Calls Tryz.prog 117 #[.agg cs.toArray] w (ak (Sx.jo x) w):=by
 obtain ⟨rfl,h1⟩:=h;exact Qt x.name x.aU h1 w
theorem Kc (x:Sx.Clause) (cs:List Value) (w:World) (h:bH x cs):Calls Tryz.prog 120 #[.agg cs.toArray] w (ak (Sx.dL x) w):=by
 unfold bH at h;subst h;exact G8 x.kind x.gH x.action x.BD w
theorem Pe (x:Sx.Cls) (cs:List Value) (w:World) (h:eu x cs):Calls Tryz.prog 127 #[.agg cs.toArray] w (ak (Sx.fT x) w):=by
 obtain ⟨rfl,h1⟩:=h;exact Qu x.name x.gD x.mean.num x.mean.den h1 w
theorem Ym (z:Int) (hz:decide ((16:Int) < z)=false) (b:Sx.Rule→Bool) (co n d:Int) (nm:List UInt8) (ks:List Sx.Rule) (A:Option Addr) (m c:Nat) (_hm:m=ks.length) (hn:nm.length≤140737488351232) (w:World)
  (hall:∀ W,Below w.heap.size w W→aC W (w.heap.size+1) 3 #[.int .i64 z]→Calls Tryz.prog 147 #[.slice A m c,.func (.func 148) #[] #[.pointer (some ⟨w.heap.size+1,0,none⟩)]] W (ak (!ks.all b) W)) :
  Calls Tryz.prog 57 #[.agg #[.int .i64 1,.int .i64 co,.string (Lx.bs nm),.int .i64 n,.int .i64 d,.slice A m c],.int .i64 z] w (ak (!decide ((200:Int) < (m:Int)) && nm.isEmpty && !(co != 0) && !(n != 0) && !(d != 0) && ks.all b) w):=by
 obtain ⟨R,hR⟩:∃ R:Bool,R=(!decide ((200:Int) < (m:Int)) && nm.isEmpty && !(co != 0) && !(n != 0) && !(d != 0) && ks.all b):=⟨_,rfl⟩
 rw[←hR];have aX:=Lh hall;obtain ⟨W,hW⟩:∃ W,W=((w.alloc (.cells #[.int .i64 1,.int .i64 co,.string (Lx.bs nm),.int .i64 n,.int .i64 d,.slice A m c] 38)).alloc (.cells #[.int .i64 z] 3)).alloc (.cells #[.int .i64 0,.int .i64 co,.string (Lx.bs nm),.int .i64 n,.int .i64 d,.slice none 0 0] 38):=⟨_,rfl⟩
 have hbW:Below w.heap.size w W:=by
  rw[hW];exact ((Below.refl _ _).alloc (Nat.le_refl _) _).alloc (by simp) _ |>.alloc (by simp;omega) _
 have e0:aC W w.heap.size 38 #[.int .i64 1,.int .i64 co,.string (Lx.bs nm),.int .i64 n,.int .i64 d,.slice A m c]:=by rw [hW];exact ((aC.new w _ _).alloc _).alloc _
 have e1:aC W (w.heap.size+1) 3 #[.int .i64 z]:=by rw [hW];exact (aC.aZ _ _ (by simp)).alloc _
 have e2:aC W (w.heap.size+1+1) 38 #[.int .i64 0,.int .i64 co,.string (Lx.bs nm),.int .i64 n,.int .i64 d,.slice none 0 0]:=by rw [hW];exact aC.aZ _ _ (by simp)
 have hw0:Below w.heap.size w ((w.alloc (.cells #[.int .i64 1,.int .i64 co,.string (Lx.bs nm),.int .i64 n,.int .i64 d,.slice A m c] 38)).alloc (.cells #[.int .i64 z] 3)):=((Below.refl _ _).alloc (Nat.le_refl _) _).alloc (by simp) _;have HB0:=Lh hbW;have E0:=Lh e0;have F0:=Lh e1;have G0:=Lh e2;have HW0:=Lh hw0;have hbs:((Lx.bs nm).toList == (⟨#[]⟩:ByteArray).toList)=nm.isEmpty:=by rw [ByteArray.toList_eq,ByteArray.toList_eq,Lx.aK];cases nm <;> rfl
 have fH:(Lx.bs nm).toList.isEmpty=nm.isEmpty:=by rw [ByteArray.toList_eq,Lx.aK]
 clear hall hbW e0 e1 e2 hw0 _hm;have HR:=Lh hR;clear hR;go_enter Tryz.func57,Tryz.ntmps57;cases q0:decide ((200:Int) < (m:Int)) with
 | true=>
  have HF:Hid (R=false):=Lh (by rw [HR.out,q0];simp);go_wp2_with fail;go_ret;exact ⟨aj HF.out.symm,HW0.out⟩
 | false=>
 cases q1:nm.isEmpty with
 | false=>
  have HF:Hid (R=false):=Lh (by rw [HR.out,q0,q1];simp);rw[q1] at hbs fH;go_wp2_with fail;go_ret;exact ⟨aj HF.out.symm,(by have h:=HB0.out;rw[hW] at h;first | exact h | exact h.drew | exact ay h _)⟩
 | true=>
 rw[q1] at hbs fH;cases q2:(co != 0) with
 | true=>
  have HF:Hid (R=false):=Lh (by rw [HR.out,q0,q1,q2];simp);go_wp2_with fail;go_ret;exact ⟨aj HF.out.symm,(by have h:=HB0.out;rw[hW] at h;first | exact h | exact h.drew | exact ay h _)⟩
 | false=>
 cases q3:(n != 0) with
 | true=>
  have HF:Hid (R=false):=Lh (by rw [HR.out,q0,q1,q2,q3];simp);go_wp2_with fail;go_ret;exact ⟨aj HF.out.symm,(by have h:=HB0.out;rw[hW] at h;first | exact h | exact h.drew | exact ay h _)⟩
 | false=>
 cases q4:(d != 0) with
 | true=>
  have HF:Hid (R=false):=Lh (by rw [HR.out,q0,q1,q2,q3,q4];simp);go_wp2_with fail;go_ret;exact ⟨aj HF.out.symm,(by have h:=HB0.out;rw[hW] at h;first | exact h | exact h.drew | exact ay h _)⟩
 | false=>
 have HT:Hid (R=ks.all b):=Lh (by rw [HR.out,q0,q1,q2,q3,q4];simp);go_wp2_with fail;rw[←hW];refine (aX.out _ HB0.out F0.out).mono ?_;rintro e w9 ⟨rfl,hb⟩;have AO:Hid (Below w.heap.size w w9):=Lh (Below.trans HB0.out (hb.mono HB0.out.size));clear hb;go_wp2_with fail;go_ret;exact ⟨aj (by simp [HT.out]),AO.out⟩
theorem Yn (z:Int) (hz:decide ((16:Int) < z)=false) (b:Sx.Rule→Bool) (co n d:Int) (nm:List UInt8) (ks:List Sx.Rule) (A:Option Addr) (m c:Nat) (_hm:m=ks.length) (hn:nm.length≤140737488351232) (w:World)
  (hall:∀ W,Below w.heap.size w W→aC W (w.heap.size+1) 3 #[.int .i64 z]→Calls Tryz.prog 147 #[.slice A m c,.func (.func 148) #[] #[.pointer (some ⟨w.heap.size+1,0,none⟩)]] W (ak (!ks.all b) W)) :
  Calls Tryz.prog 57 #[.agg #[.int .i64 2,.int .i64 co,.string (Lx.bs nm),.int .i64 n,.int .i64 d,.slice A m c],.int .i64 z] w (ak (!decide ((200:Int) < (m:Int)) && nm.isEmpty && !(co != 0) && !(n != 0) && !(d != 0) && ks.all b) w):=by
 obtain ⟨R,hR⟩:∃ R:Bool,R=(!decide ((200:Int) < (m:Int)) && nm.isEmpty && !(co != 0) && !(n != 0) && !(d != 0) && ks.all b):=⟨_,rfl⟩
 rw[←hR];have aX:=Lh hall;obtain ⟨W,hW⟩:∃ W,W=((w.alloc (.cells #[.int .i64 2,.int .i64 co,.string (Lx.bs nm),.int .i64 n,.int .i64 d,.slice A m c] 38)).alloc (.cells #[.int .i64 z] 3)).alloc (.cells #[.int .i64 0,.int .i64 co,.string (Lx.bs nm),.int .i64 n,.int .i64 d,.slice none 0 0] 38):=⟨_,rfl⟩
 have hbW:Below w.heap.size w W:=by
  rw[hW];exact ((Below.refl _ _).alloc (Nat.le_refl _) _).alloc (by simp) _ |>.alloc (by simp;omega) _
 have e0:aC W w.heap.size 38 #[.int .i64 2,.int .i64 co,.string (Lx.bs nm),.int .i64 n,.int .i64 d,.slice A m c]:=by rw [hW];exact ((aC.new w _ _).alloc _).alloc _
 have e1:aC W (w.heap.size+1) 3 #[.int .i64 z]:=by rw [hW];exact (aC.aZ _ _ (by simp)).alloc _
 have e2:aC W (w.heap.size+1+1) 38 #[.int .i64 0,.int .i64 co,.string (Lx.bs nm),.int .i64 n,.int .i64 d,.slice none 0 0]:=by rw [hW];exact aC.aZ _ _ (by simp)
 have hw0:Below w.heap.size w ((w.alloc (.cells #[.int .i64 2,.int .i64 co,.string (Lx.bs nm),.int .i64 n,.int .i64 d,.slice A m c] 38)).alloc (.cells #[.int .i64 z] 3)):=((Below.refl _ _).alloc (Nat.le_refl _) _).alloc (by simp) _;have HB0:=Lh hbW;have E0:=Lh e0;have F0:=Lh e1;have G0:=Lh e2;have HW0:=Lh hw0;have hbs:((Lx.bs nm).toList == (⟨#[]⟩:ByteArray).toList)=nm.isEmpty:=by rw [ByteArray.toList_eq,ByteArray.toList_eq,Lx.aK];cases nm <;> rfl
 have fH:(Lx.bs nm).toList.isEmpty=nm.isEmpty:=by rw [ByteArray.toList_eq,Lx.aK]
 clear hall hbW e0 e1 e2 hw0 _hm;have HR:=Lh hR;clear hR;go_enter Tryz.func57,Tryz.ntmps57;cases q0:decide ((200:Int) < (m:Int)) with
 | true=>
  have HF:Hid (R=false):=Lh (by rw [HR.out,q0];simp);go_wp2_with fail;go_ret;exact ⟨aj HF.out.symm,HW0.out⟩
 | false=>
 cases q1:nm.isEmpty with
 | false=>
  have HF:Hid (R=false):=Lh (by rw [HR.out,q0,q1];simp);rw[q1] at hbs fH;go_wp2_with fail;go_ret;exact ⟨aj HF.out.symm,(by have h:=HB0.out;rw[hW] at h;first | exact h | exact h.drew | exact ay h _)⟩
 | true=>
 rw[q1] at hbs fH;cases q2:(co != 0) with
 | true=>
  have HF:Hid (R=false):=Lh (by rw [HR.out,q0,q1,q2];simp);go_wp2_with fail;go_ret;exact ⟨aj HF.out.symm,(by have h:=HB0.out;rw[hW] at h;first | exact h | exact h.drew | exact ay h _)⟩
 | false=>
 cases q3:(n != 0) with
 | true=>
  have HF:Hid (R=false):=Lh (by rw [HR.out,q0,q1,q2,q3];simp);go_wp2_with fail;go_ret;exact ⟨aj HF.out.symm,(by have h:=HB0.out;rw[hW] at h;first | exact h | exact h.drew | exact ay h _)⟩
 | false=>
 cases q4:(d != 0) with
 | true=>
  have HF:Hid (R=false):=Lh (by rw [HR.out,q0,q1,q2,q3,q4];simp);go_wp2_with fail;go_ret;exact ⟨aj HF.out.symm,(by have h:=HB0.out;rw[hW] at h;first | exact h | exact h.drew | exact ay h _)⟩
 | false=>
 have HT:Hid (R=ks.all b):=Lh (by rw [HR.out,q0,q1,q2,q3,q4];simp);go_wp2_with fail;rw[←hW];refine (aX.out _ HB0.out F0.out).mono ?_;rintro e w9 ⟨rfl,hb⟩;have AO:Hid (Below w.heap.size w w9):=Lh (Below.trans HB0.out (hb.mono HB0.out.size));clear hb;go_wp2_with fail;go_ret;exact ⟨aj (by simp [HT.out]),AO.out⟩
theorem Yo (z:Int) (hz:decide ((16:Int) < z)=false) (b:Sx.Rule→Bool) (co n d:Int) (nm:List UInt8) (ks:List Sx.Rule) (A:Option Addr) (m c:Nat) (_hm:m=ks.length) (hn:nm.length≤140737488351232) (w:World)
  (hall:∀ W,Below w.heap.size w W→aC W (w.heap.size+1) 3 #[.int .i64 z]→Calls Tryz.prog 147 #[.slice A m c,.func (.func 148) #[] #[.pointer (some ⟨w.heap.size+1,0,none⟩)]] W (ak (!ks.all b) W)) :
  Calls Tryz.prog 57 #[.agg #[.int .i64 3,.int .i64 co,.string (Lx.bs nm),.int .i64 n,.int .i64 d,.slice A m c],.int .i64 z] w (ak (!decide ((200:Int) < (m:Int)) && Sx.dX n 0 200 && nm.isEmpty && !(co != 0) && !(d != 0) && ks.all b) w):=by
 obtain ⟨R,hR⟩:∃ R:Bool,R=(!decide ((200:Int) < (m:Int)) && Sx.dX n 0 200 && nm.isEmpty && !(co != 0) && !(d != 0) && ks.all b):=⟨_,rfl⟩
 rw[←hR];have aX:=Lh hall;obtain ⟨W,hW⟩:∃ W,W=((w.alloc (.cells #[.int .i64 3,.int .i64 co,.string (Lx.bs nm),.int .i64 n,.int .i64 d,.slice A m c] 38)).alloc (.cells #[.int .i64 z] 3)).alloc (.cells #[.int .i64 0,.int .i64 co,.string (Lx.bs nm),.int .i64 n,.int .i64 d,.slice none 0 0] 38):=⟨_,rfl⟩
 have hbW:Below w.heap.size w W:=by
  rw[hW];exact ((Below.refl _ _).alloc (Nat.le_refl _) _).alloc (by simp) _ |>.alloc (by simp;omega) _
 have e0:aC W w.heap.size 38 #[.int .i64 3,.int .i64 co,.string (Lx.bs nm),.int .i64 n,.int .i64 d,.slice A m c]:=by rw [hW];exact ((aC.new w _ _).alloc _).alloc _
 have e1:aC W (w.heap.size+1) 3 #[.int .i64 z]:=by rw [hW];exact (aC.aZ _ _ (by simp)).alloc _
 have e2:aC W (w.heap.size+1+1) 38 #[.int .i64 0,.int .i64 co,.string (Lx.bs nm),.int .i64 n,.int .i64 d,.slice none 0 0]:=by rw [hW];exact aC.aZ _ _ (by simp)
 have hw0:Below w.heap.size w ((w.alloc (.cells #[.int .i64 3,.int .i64 co,.string (Lx.bs nm),.int .i64 n,.int .i64 d,.slice A m c] 38)).alloc (.cells #[.int .i64 z] 3)):=((Below.refl _ _).alloc (Nat.le_refl _) _).alloc (by simp) _;have HB0:=Lh hbW;have E0:=Lh e0;have F0:=Lh e1;have G0:=Lh e2;have HW0:=Lh hw0;have hbs:((Lx.bs nm).toList == (⟨#[]⟩:ByteArray).toList)=nm.isEmpty:=by rw [ByteArray.toList_eq,ByteArray.toList_eq,Lx.aK];cases nm <;> rfl
 have fH:(Lx.bs nm).toList.isEmpty=nm.isEmpty:=by rw [ByteArray.toList_eq,Lx.aK]
 clear hall hbW e0 e1 e2 hw0 _hm;have K1:=Lh (fun (W:World) (_:Below w.heap.size w W)=>AJ n 0 200 W);have HR:=Lh hR;clear hR;go_enter Tryz.func57,Tryz.ntmps57;cases q0:decide ((200:Int) < (m:Int)) with
 | true=>
  have HF:Hid (R=false):=Lh (by rw [HR.out,q0];simp);go_wp2_with fail;go_ret;exact ⟨aj HF.out.symm,HW0.out⟩
 | false=>
 go_wp2_with fail;rw[←hW];refine (K1.out _ HB0.out).mono ?_;rintro e w1 ⟨rfl,hb⟩;have HB1:=Lh (HB0.out.trans (hb.mono HB0.out.size));have y:=E0.out.below hb E0.out.lt;have yl:=F0.out.below hb F0.out.lt;have yr:=G0.out.below hb G0.out.lt;have E1:=Lh y;have F1:=Lh yl;have G1:=Lh yr;obtain ⟨x0,x1,x2,x3,x4,x5,_⟩:=aQ y;obtain ⟨r0,r1,r2,r3,r4,r5,z1⟩:=aQ yr;obtain ⟨Qy,Qz,QA,QB,QC,QD⟩:=oQ yr;have v0:=yl.cell 0;simp at v0;clear hb y yl yr;cases q1:Sx.dX n 0 200 with
 | false=>
  have HF:Hid (R=false):=Lh (by rw [HR.out,q0,q1];simp);go_wp2_with fail;go_ret;exact ⟨aj HF.out.symm,(Below.setCell HB1.out (by simp <;> omega) _)⟩
 | true=>
 have Q1:=Lh q1;clear q1;cases q2:nm.isEmpty with
 | false=>
  have HF:Hid (R=false):=Lh (by rw [HR.out,q0,Q1.out,q2];simp);rw[q2] at hbs fH;go_wp2_with fail;go_ret;exact ⟨aj HF.out.symm,(Below.setCell HB1.out (by simp <;> omega) _)⟩
 | true=>
 rw[q2] at hbs fH;cases q3:(co != 0) with
 | true=>
  have HF:Hid (R=false):=Lh (by rw [HR.out,q0,Q1.out,q2,q3];simp);go_wp2_with fail;go_ret;exact ⟨aj HF.out.symm,(Below.setCell HB1.out (by simp <;> omega) _)⟩
 | false=>
 cases q4:(d != 0) with
 | true=>
  have HF:Hid (R=false):=Lh (by rw [HR.out,q0,Q1.out,q2,q3,q4];simp);go_wp2_with fail;go_ret;exact ⟨aj HF.out.symm,(Below.setCell HB1.out (by simp <;> omega) _)⟩
 | false=>
 have HT:Hid (R=ks.all b):=Lh (by rw [HR.out,q0,Q1.out,q2,q3,q4];simp);go_wp2_with fail;refine (aX.out _ (Below.setCell HB1.out (by simp <;> omega) _) (aC.far F1.out (by simp <;> omega) _)).mono ?_;rintro e w9 ⟨rfl,hb⟩;have AO:Hid (Below w.heap.size w w9):=Lh (Below.trans (Below.setCell HB1.out (by simp <;> omega) _) (hb.mono (Below.setCell HB1.out (by simp <;> omega) _).size));clear hb;go_wp2_with fail;go_ret;exact ⟨aj (by simp [HT.out]),AO.out⟩
theorem Yp (z:Int) (hz:decide ((16:Int) < z)=false) (b:Sx.Rule→Bool) (co n d:Int) (nm:List UInt8) (ks:List Sx.Rule) (A:Option Addr) (m c:Nat) (_hm:m=ks.length) (hn:nm.length≤140737488351232) (w:World)
  (hall:∀ W,Below w.heap.size w W→aC W (w.heap.size+1) 3 #[.int .i64 z]→Calls Tryz.prog 147 #[.slice A m c,.func (.func 148) #[] #[.pointer (some ⟨w.heap.size+1,0,none⟩)]] W (ak (!ks.all b) W)) :
  Calls Tryz.prog 57 #[.agg #[.int .i64 4,.int .i64 co,.string (Lx.bs nm),.int .i64 n,.int .i64 d,.slice A m c],.int .i64 z] w (ak (!decide ((200:Int) < (m:Int)) && ((m:Int) == 1) && nm.isEmpty && !(co != 0) && !(n != 0) && !(d != 0) && ks.all b) w):=by
 obtain ⟨R,hR⟩:∃ R:Bool,R=(!decide ((200:Int) < (m:Int)) && ((m:Int) == 1) && nm.isEmpty && !(co != 0) && !(n != 0) && !(d != 0) && ks.all b):=⟨_,rfl⟩
 rw[←hR];have aX:=Lh hall;obtain ⟨W,hW⟩:∃ W,W=((w.alloc (.cells #[.int .i64 4,.int .i64 co,.string (Lx.bs nm),.int .i64 n,.int .i64 d,.slice A m c] 38)).alloc (.cells #[.int .i64 z] 3)).alloc (.cells #[.int .i64 0,.int .i64 co,.string (Lx.bs nm),.int .i64 n,.int .i64 d,.slice none 0 0] 38):=⟨_,rfl⟩
 have hbW:Below w.heap.size w W:=by
  rw[hW];exact ((Below.refl _ _).alloc (Nat.le_refl _) _).alloc (by simp) _ |>.alloc (by simp;omega) _
 have e0:aC W w.heap.size 38 #[.int .i64 4,.int .i64 co,.string (Lx.bs nm),.int .i64 n,.int .i64 d,.slice A m c]:=by rw [hW];exact ((aC.new w _ _).alloc _).alloc _
 have e1:aC W (w.heap.size+1) 3 #[.int .i64 z]:=by rw [hW];exact (aC.aZ _ _ (by simp)).alloc _
 have e2:aC W (w.heap.size+1+1) 38 #[.int .i64 0,.int .i64 co,.string (Lx.bs nm),.int .i64 n,.int .i64 d,.slice none 0 0]:=by rw [hW];exact aC.aZ _ _ (by simp)
 have hw0:Below w.heap.size w ((w.alloc (.cells #[.int .i64 4,.int .i64 co,.string (Lx.bs nm),.int .i64 n,.int .i64 d,.slice A m c] 38)).alloc (.cells #[.int .i64 z] 3)):=((Below.refl _ _).alloc (Nat.le_refl _) _).alloc (by simp) _;have HB0:=Lh hbW;have E0:=Lh e0;have F0:=Lh e1;have G0:=Lh e2;have HW0:=Lh hw0;have hbs:((Lx.bs nm).toList == (⟨#[]⟩:ByteArray).toList)=nm.isEmpty:=by rw [ByteArray.toList_eq,ByteArray.toList_eq,Lx.aK];cases nm <;> rfl
 have fH:(Lx.bs nm).toList.isEmpty=nm.isEmpty:=by rw [ByteArray.toList_eq,Lx.aK]
 clear hall hbW e0 e1 e2 hw0 _hm;have HR:=Lh hR;clear hR;go_enter Tryz.func57,Tryz.ntmps57;cases q0:decide ((200:Int) < (m:Int)) with
 | true=>
  have HF:Hid (R=false):=Lh (by rw [HR.out,q0];simp);go_wp2_with fail;go_ret;exact ⟨aj HF.out.symm,HW0.out⟩
 | false=>
 cases q1:((m:Int) == 1) with
 | false=>
  have HF:Hid (R=false):=Lh (by rw [HR.out,q0,q1];simp);go_wp2_with fail
  go_quiet (fail)
  all_goals (try go_wp2_with fail)
  all_goals go_ret
  all_goals exact ⟨aj HF.out.symm,(by have h:=HB0.out;rw[hW] at h;first | exact h | exact h.drew | exact ay h _)⟩
 | true=>
 cases q2:nm.isEmpty with
 | false=>
  have HF:Hid (R=false):=Lh (by rw [HR.out,q0,q1,q2];simp);rw[q2] at hbs fH;go_wp2_with fail
  go_quiet (fail)
  all_goals (try go_wp2_with fail)
  all_goals go_ret
  all_goals exact ⟨aj HF.out.symm,(by have h:=HB0.out;rw[hW] at h;first | exact h | exact h.drew | exact ay h _)⟩
 | true=>
 rw[q2] at hbs fH;cases q3:(co != 0) with
 | true=>
  have HF:Hid (R=false):=Lh (by rw [HR.out,q0,q1,q2,q3];simp);go_wp2_with fail
  go_quiet (fail)
  all_goals (try go_wp2_with fail)
  all_goals go_ret
  all_goals exact ⟨aj HF.out.symm,(by have h:=HB0.out;rw[hW] at h;first | exact h | exact h.drew | exact ay h _)⟩
 | false=>
 cases q4:(n != 0) with
 | true=>
  have HF:Hid (R=false):=Lh (by rw [HR.out,q0,q1,q2,q3,q4];simp);go_wp2_with fail
  go_quiet (fail)
  all_goals (try go_wp2_with fail)
  all_goals go_ret
  all_goals exact ⟨aj HF.out.symm,(by have h:=HB0.out;rw[hW] at h;first | exact h | exact h.drew | exact ay h _)⟩
 | false=>
 cases q5:(d != 0) with
 | true=>
  have HF:Hid (R=false):=Lh (by rw [HR.out,q0,q1,q2,q3,q4,q5];simp);go_wp2_with fail
  go_quiet (fail)
  all_goals (try go_wp2_with fail)
  all_goals go_ret
  all_goals exact ⟨aj HF.out.symm,(by have h:=HB0.out;rw[hW] at h;first | exact h | exact h.drew | exact ay h _)⟩
 | false=>
 have HT:Hid (R=ks.all b):=Lh (by rw [HR.out,q0,q1,q2,q3,q4,q5];simp);go_wp2_with fail
 go_quiet (fail)
 all_goals (try go_wp2_with fail)
 all_goals rw [←hW]
 all_goals refine (aX.out _ (by first | exact HB0.out | exact HB0.out.drew | exact ay HB0.out _) (by first | exact F0.out | exact F0.out.drew | exact F0.out.drewN _)).mono ?_
 all_goals rintro e w9 ⟨rfl,hb⟩
 all_goals have AO:Hid (Below w.heap.size w w9):=Lh (Below.trans (by first | exact HB0.out | exact HB0.out.drew | exact ay HB0.out _) (hb.mono HB0.out.size))
 all_goals clear hb
 all_goals go_wp2_with fail
 all_goals go_ret
 all_goals exact ⟨aj (by simp [HT.out]),AO.out⟩
theorem UU (z:Int) (hz:decide ((16:Int) < z)=false) (b:Sx.Rule→Bool) (op co n d:Int) (nm:List UInt8) (ks:List Sx.Rule) (A:Option Addr) (m c:Nat) (_hm:m=ks.length) (hn:nm.length≤140737488351232) (w:World) (o1:(op == 1)=false) (o2:(op == 2)=false) (o3:(op == 3)=false) (o4:(op == 4)=false) (o5:(op == 5)=false) (o6:(op == 6)=false) (o7:(op == 7)=false) (o8:(op == 8)=false) (o9:(op == 9)=false)
  (hall:∀ W,Below w.heap.size w W→aC W (w.heap.size+1) 3 #[.int .i64 z]→Calls Tryz.prog 147 #[.slice A m c,.func (.func 148) #[] #[.pointer (some ⟨w.heap.size+1,0,none⟩)]] W (ak (!ks.all b) W)) :
  Calls Tryz.prog 57 #[.agg #[.int .i64 op,.int .i64 co,.string (Lx.bs nm),.int .i64 n,.int .i64 d,.slice A m c],.int .i64 z] w (ak (false) w):=by
 obtain ⟨R,hR⟩:∃ R:Bool,R=(false):=⟨_,rfl⟩
 rw[←hR];have aX:=Lh hall;obtain ⟨W,hW⟩:∃ W,W=((w.alloc (.cells #[.int .i64 op,.int .i64 co,.string (Lx.bs nm),.int .i64 n,.int .i64 d,.slice A m c] 38)).alloc (.cells #[.int .i64 z] 3)).alloc (.cells #[.int .i64 0,.int .i64 co,.string (Lx.bs nm),.int .i64 n,.int .i64 d,.slice none 0 0] 38):=⟨_,rfl⟩
 have hbW:Below w.heap.size w W:=by
  rw[hW];exact ((Below.refl _ _).alloc (Nat.le_refl _) _).alloc (by simp) _ |>.alloc (by simp;omega) _
 have e0:aC W w.heap.size 38 #[.int .i64 op,.int .i64 co,.string (Lx.bs nm),.int .i64 n,.int .i64 d,.slice A m c]:=by rw [hW];exact ((aC.new w _ _).alloc _).alloc _
 have e1:aC W (w.heap.size+1) 3 #[.int .i64 z]:=by rw [hW];exact (aC.aZ _ _ (by simp)).alloc _
 have e2:aC W (w.heap.size+1+1) 38 #[.int .i64 0,.int .i64 co,.string (Lx.bs nm),.int .i64 n,.int .i64 d,.slice none 0 0]:=by rw [hW];exact aC.aZ _ _ (by simp)
 have hw0:Below w.heap.size w ((w.alloc (.cells #[.int .i64 op,.int .i64 co,.string (Lx.bs nm),.int .i64 n,.int .i64 d,.slice A m c] 38)).alloc (.cells #[.int .i64 z] 3)):=((Below.refl _ _).alloc (Nat.le_refl _) _).alloc (by simp) _;have HB0:=Lh hbW;have E0:=Lh e0;have F0:=Lh e1;have G0:=Lh e2;have HW0:=Lh hw0;have hbs:((Lx.bs nm).toList == (⟨#[]⟩:ByteArray).toList)=nm.isEmpty:=by rw [ByteArray.toList_eq,ByteArray.toList_eq,Lx.aK];cases nm <;> rfl
 have fH:(Lx.bs nm).toList.isEmpty=nm.isEmpty:=by rw [ByteArray.toList_eq,Lx.aK]
 clear hall hbW e0 e1 e2 hw0 _hm;cases q0:decide ((200:Int) < (m:Int)) with
 | true=>
  have HR:=Lh hR;clear hR;go_enter Tryz.func57,Tryz.ntmps57;go_wp2_with fail;go_ret;exact ⟨aj HR.out.symm,HW0.out⟩
 | false=>
  have HR:=Lh hR;clear hR;go_enter Tryz.func57,Tryz.ntmps57;go_wp2_with fail;go_ret;exact ⟨aj HR.out.symm,by rw [hW] at HB0;exact HB0.out⟩
end Go.Proofs.YtjonaidancomgaaGreatDoor
