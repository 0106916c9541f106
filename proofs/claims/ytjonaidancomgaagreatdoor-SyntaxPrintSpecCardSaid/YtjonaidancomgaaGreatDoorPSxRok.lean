/- Parts of the proof, joined into one text: q1N, q0m, q1O. -/
import Derived.Test.YtjonaidancomgaaGreatDoorPSxChain
import Derived.Test.YtjonaidancomgaaGreatDoorPSxRokB
import Derived.Test.YtjonaidancomgaaGreatDoorPSxPrR
import Derived.Test.YtjonaidancomgaaGreatDoorPSxRd
import Derived.Test.YtjonaidancomgaaGreatDoorPSxPut
set_option maxHeartbeats 4000000
set_option maxRecDepth 20000
namespace Go.Proofs.YtjonaidancomgaaGreatDoor
open Go.RowKit
theorem Sx.gq (k:Nat):∀ ks:List Sx.Rule,Sx.dU k ks=ks.all (Sx.aO k)
 | []=>rfl
 | r::ks=>by rw [Sx.dU,Sx.gq k ks];rfl
theorem OG (x:Sx.Rule) (cs:List Value) (bx:Nat) (z:Int) (hz:IntKind.i64.wrap (z+1)=z+1) (b:Bool) (w:World) (hbx:aC w bx 3 #[.int .i64 z]) (hP:aB w (Old w) x cs)
  (H:∀ W,Below w.heap.size w W→aB W (Old W) x cs→Calls Tryz.prog 57 #[.agg cs.toArray,.int .i64 (z+1)] W (ak b W)) :
  Calls Tryz.prog 148 #[.agg cs.toArray,.pointer (some ⟨bx,0,none⟩)] w (ak (!b) w):=by
 have c0:=hbx.cell 0;have hlt:=hbx.lt;simp at c0;have hP':=hP;obtain ⟨i0,i1,s2,i3,i4,A5,n5,c5,rfl⟩:=bG hP;have hbw:Below w.heap.size w (w.alloc (.cells #[.int .i64 i0,.int .i64 i1,.string s2,.int .i64 i3,.int .i64 i4,.slice A5 n5 c5] 38)):=(Below.refl _ _).alloc (Nat.le_refl _) _;have Hc:=Lh (H _ hbw (cu hbw hP'));have gy:=Lh hbw;clear H hbw hP hP' hbx;go_enter Tryz.func148,Tryz.ntmps148;go_wp2_with fail;refine Hc.out.mono ?_;rintro e w1 ⟨rfl,hb1⟩;have Hb1:=Lh (gy.out.trans (hb1.mono gy.out.size));clear hb1;go_wp2_with fail;go_ret;exact ⟨aj rfl,Hb1.out⟩
theorem Dp {w:World} {A:Option Addr} {ks:List Sx.Rule} (h:dP w (Old w) A 0 ks) (hl:ks.length≤140737488351232):Row w (Old w) A 6 (aB w (Old w)) ks:=⟨kZ.1 h,hl⟩
theorem Si (i0 i1 i3 i4:Int) (s2:ByteArray) (A5:Option Addr) (n5 c5:Nat) (w:World):Calls Tryz.prog 57 #[.agg #[.int .i64 i0,.int .i64 i1,.string s2,.int .i64 i3,.int .i64 i4,.slice A5 n5 c5],.int .i64 17] w (ak false w):=by
 have hw0:Below w.heap.size w ((w.alloc (.cells #[.int .i64 i0,.int .i64 i1,.string s2,.int .i64 i3,.int .i64 i4,.slice A5 n5 c5] 38)).alloc (.cells #[.int .i64 17] 3)):=((Below.refl _ _).alloc (Nat.le_refl _) _).alloc (by simp) _;have HW0:=Lh hw0;clear hw0;go_enter Tryz.func57,Tryz.ntmps57;go_wp2_with fail;go_ret;exact ⟨aj rfl,HW0.out⟩
theorem nY (ks:List Sx.Rule):(!decide ((200:Int) < (ks.length:Int)))=decide (ks.length≤200):=by rw [Bool.eq_iff_iff];simp;omega
theorem Bz (ks:List Sx.Rule):(!decide (0 < ks.length))=ks.isEmpty:=by cases ks <;> simp
theorem len1 (ks:List Sx.Rule):((ks.length:Int) == 1)=(ks.length == 1):=by rw [Bool.eq_iff_iff];simp;omega
theorem BA (x:Int):(!(x != 0))=(x == 0):=by cases h:(x == 0) <;> simp [bne,h]
theorem tH:∀ (k:Nat) (z:Int),z=17 - (k:Int)→k≤16→∀ (r:Sx.Rule) (w:World) (cs:List Value),aB w (Old w) r cs→Calls Tryz.prog 57 #[.agg cs.toArray,.int .i64 z] w (ak (Sx.aO k r) w)
 | 0,z,hz,_,r,w,cs,h=>by
  obtain rfl:z=17:=by omega
  obtain ⟨i0,i1,s2,i3,i4,A5,n5,c5,rfl⟩:=bG h;have e:Sx.aO 0 r=false:=by cases r;rfl
  rw[e];exact Si i0 i1 i3 i4 s2 A5 n5 c5 w
 | k+1,z,hz,hk,.mk op co nm n d ks,w,cs,h=>by
  have ih:=tH k (z+1) (by omega) (by omega);have hw1:IntKind.i64.wrap (z+1)=z+1:=IntWalk.i64_in _ (by omega);have yU:decide ((16:Int) < z)=false:=decide_eq_false (by omega);rw[aB] at h;obtain ⟨A,c,rfl,hn,hkl,hA⟩:=h;have hall:∀ W,Below w.heap.size w W→aC W (w.heap.size+1) 3 #[.int .i64 z]→Calls Tryz.prog 147 #[.slice A ks.length c,.func (.func 148) #[] #[.pointer (some ⟨w.heap.size+1,0,none⟩)]] W (ak (!ks.all (Sx.aO k)) W):=fun W hW hB=>
   JW A c ks (w.heap.size+1) (Sx.aO k) W ((Dp hA hkl).keep (P':=aB W (Old W)) (aG hW) fun _ _ _ h=>cu hW h) (fun x _ cs W' hW' hP=>
    OG x cs _ z hw1 _ W' (hB.below hW' hB.lt) hP (fun W2 _ h2=>ih x W2 cs h2))
  unfold aT bB;have fin:∀ b:Bool,b=Sx.aO (k+1) (.mk op co nm n d ks)→∀ {e:Ending} {w':World},ak b w e w'→ak (Sx.aO (k+1) (.mk op co nm n d ks)) w e w':=fun b hb e w' h=>by rw [←hb];exact h
  by_cases o1:op=1
  ·subst o1;refine (Ym z yU (Sx.aO k) co n d nm ks A _ c rfl hn w hall).mono fun e w' he=>fin _ ?_ he;rw[Sx.aO,Sx.gq,nY]
   try rw [Bz]
   try rw [len1]
   simp only[BA];rw[Bool.eq_iff_iff];simp[and_comm,and_left_comm,and_assoc]
  by_cases o2:op=2
  ·subst o2;refine (Yn z yU (Sx.aO k) co n d nm ks A _ c rfl hn w hall).mono fun e w' he=>fin _ ?_ he;rw[Sx.aO,Sx.gq,nY]
   try rw [Bz]
   try rw [len1]
   simp only[BA];rw[Bool.eq_iff_iff];simp[and_comm,and_left_comm,and_assoc]
  by_cases o3:op=3
  ·subst o3;refine (Yo z yU (Sx.aO k) co n d nm ks A _ c rfl hn w hall).mono fun e w' he=>fin _ ?_ he;rw[Sx.aO,Sx.gq,nY]
   try rw [Bz]
   try rw [len1]
   simp only[BA];rw[Bool.eq_iff_iff];simp[and_comm,and_left_comm,and_assoc]
  by_cases o4:op=4
  ·subst o4;refine (Yp z yU (Sx.aO k) co n d nm ks A _ c rfl hn w hall).mono fun e w' he=>fin _ ?_ he;rw[Sx.aO,Sx.gq,nY]
   try rw [Bz]
   try rw [len1]
   simp only[BA];rw[Bool.eq_iff_iff];simp[and_comm,and_left_comm,and_assoc]
  by_cases o5:op=5
  ·subst o5;refine (q0n z yU (Sx.aO k) co n d nm ks A _ c rfl hn w hall).mono fun e w' he=>fin _ ?_ he;rw[Sx.aO,Sx.gq,nY]
   try rw [Bz]
   try rw [len1]
   simp only[BA];rw[Bool.eq_iff_iff];simp[and_comm,and_left_comm,and_assoc]
  by_cases o6:op=6
  ·subst o6;refine (q0o z yU (Sx.aO k) co n d nm ks A _ c rfl hn w hall).mono fun e w' he=>fin _ ?_ he;rw[Sx.aO,Sx.gq,nY]
   try rw [Bz]
   try rw [len1]
   simp only[BA];rw[Bool.eq_iff_iff];simp[and_comm,and_left_comm,and_assoc]
  by_cases o7:op=7
  ·subst o7;refine (q0p z yU (Sx.aO k) co n d nm ks A _ c rfl hn w hall).mono fun e w' he=>fin _ ?_ he;rw[Sx.aO,Sx.gq,nY]
   try rw [Bz]
   try rw [len1]
   simp only[BA];rw[Bool.eq_iff_iff];simp[and_comm,and_left_comm,and_assoc]
  by_cases o8:op=8
  ·subst o8;refine (q0q z yU (Sx.aO k) co n d nm ks A _ c rfl hn w hall).mono fun e w' he=>fin _ ?_ he;rw[Sx.aO,Sx.gq,nY]
   try rw [Bz]
   try rw [len1]
   simp only[BA];rw[Bool.eq_iff_iff];simp[and_comm,and_left_comm,and_assoc]
  by_cases o9:op=9
  ·subst o9;refine (q0r z yU (Sx.aO k) co n d nm ks A _ c rfl hn w hall).mono fun e w' he=>fin _ ?_ he;rw[Sx.aO,Sx.gq,nY]
   try rw [Bz]
   try rw [len1]
   simp only[BA];rw[Bool.eq_iff_iff];simp[and_comm,and_left_comm,and_assoc]
  refine (UU z yU (Sx.aO k) op co n d nm ks A _ c rfl hn w (by simpa using o1) (by simpa using o2) (by simpa using o3) (by simpa using o4) (by simpa using o5) (by simpa using o6) (by simpa using o7) (by simpa using o8) (by simpa using o9) hall).mono fun e w' he=>fin _ ?_ he;rw[Sx.aO];simp[o1,o2,o3,o4,o5,o6,o7,o8,o9]
theorem Ja (nm:List UInt8) (no cr rp:Int) (a0 a1:Int) (a2:ByteArray) (a3 a4:Int) (aA:Option Addr) (an ac:Nat) (b0 b1:Int) (b2:ByteArray) (b3 b4:Int) (bA:Option Addr) (bn bc:Nat) (pn pb:Bool) (hn:nm.length≤140737488351232) (w:World) (hnd:∀ W,Below w.heap.size w W→Calls Tryz.prog 57 #[.agg #[.int .i64 a0,.int .i64 a1,.string a2,.int .i64 a3,.int .i64 a4,.slice aA an ac],.int .i64 1] W (ak pn W)) (hbr:∀ W,Below w.heap.size w W→Calls Tryz.prog 57 #[.agg #[.int .i64 b0,.int .i64 b1,.string b2,.int .i64 b3,.int .i64 b4,.slice bA bn bc],.int .i64 1] W (ak pb W)) :
  Calls Tryz.prog 122 #[.agg #[.string (Lx.bs nm),.int .i64 no,.int .i64 cr,.int .i64 rp,.int .i64 a0,.int .i64 a1,.string a2,.int .i64 a3,.int .i64 a4,.slice aA an ac,.int .i64 b0,.int .i64 b1,.string b2,.int .i64 b3,.int .i64 b4,.slice bA bn bc]] w (ak (Sx.dX no 0 4095 && Lx.isName nm && Sx.dX cr 1 60 && Sx.dX rp 0 2 && pn && pb) w):=by
 obtain ⟨R,hR⟩:∃ R:Bool,R=(Sx.dX no 0 4095 && Lx.isName nm && Sx.dX cr 1 60 && Sx.dX rp 0 2 && pn && pb):=⟨_,rfl⟩
 rw[←hR];have hb0:Below w.heap.size w (w.alloc (.cells #[.string (Lx.bs nm),.int .i64 no,.int .i64 cr,.int .i64 rp,.int .i64 a0,.int .i64 a1,.string a2,.int .i64 a3,.int .i64 a4,.slice aA an ac,.int .i64 b0,.int .i64 b1,.string b2,.int .i64 b3,.int .i64 b4,.slice bA bn bc] 58)):=(Below.refl _ _).alloc (Nat.le_refl _) _
 have e0:aC (w.alloc (.cells #[.string (Lx.bs nm),.int .i64 no,.int .i64 cr,.int .i64 rp,.int .i64 a0,.int .i64 a1,.string a2,.int .i64 a3,.int .i64 a4,.slice aA an ac,.int .i64 b0,.int .i64 b1,.string b2,.int .i64 b3,.int .i64 b4,.slice bA bn bc] 58)) w.heap.size 58 #[.string (Lx.bs nm),.int .i64 no,.int .i64 cr,.int .i64 rp,.int .i64 a0,.int .i64 a1,.string a2,.int .i64 a3,.int .i64 a4,.slice aA an ac,.int .i64 b0,.int .i64 b1,.string b2,.int .i64 b3,.int .i64 b4,.slice bA bn bc]:=aC.new _ _ _;have HB0:=Lh hb0;have E0:=Lh e0;clear hb0 e0
 have K0:=Lh (fun (W:World) (_:Below w.heap.size w W)=>AJ no 0 4095 W);have K1:=Lh (fun (W:World) (_:Below w.heap.size w W)=>uj nm W hn);have K2:=Lh (fun (W:World) (_:Below w.heap.size w W)=>AJ cr 1 60 W);have K3:=Lh (fun (W:World) (_:Below w.heap.size w W)=>AJ rp 0 2 W);have K4:=Lh (hnd);have K5:=Lh (hbr);have HR:=Lh hR;clear hR;go_enter Tryz.func122,Tryz.ntmps122;go_wp2_with fail;refine (K0.out _ HB0.out).mono ?_;rintro e w1 ⟨rfl,hb⟩;have HB1:=Lh (HB0.out.trans (hb.mono HB0.out.size));have y:=E0.out.below hb E0.out.lt;have E1:=Lh y
 obtain ⟨x0,x1,x2,x3,x4,x5,x6,x7,x8,x9,x10,kG,kH,kI,mI,lS,z1⟩:=fM y;clear hb y;cases q0:Sx.dX no 0 4095 with
 | false=>
  have HF:Hid (R=false):=Lh (by rw [HR.out,q0];simp);go_wp2_with fail;go_ret;exact ⟨aj HF.out.symm,HB1.out⟩
 | true=>
 have Q0:=Lh q0;clear q0;go_wp2_with fail;refine (K1.out _ HB1.out).mono ?_;rintro e w2 ⟨rfl,hb⟩;have HB2:=Lh (HB1.out.trans (hb.mono HB1.out.size));have y:=E1.out.below hb E1.out.lt;have E2:=Lh y;obtain ⟨x0,x1,x2,x3,x4,x5,x6,x7,x8,x9,x10,kG,kH,kI,mI,lS,z2⟩:=fM y;clear hb y;cases q1:Lx.isName nm with
 | false=>
  have HF:Hid (R=false):=Lh (by rw [HR.out,Q0.out,q1];simp);go_wp2_with fail;go_ret;exact ⟨aj HF.out.symm,HB2.out⟩
 | true=>
 have Q1:=Lh q1;clear q1;go_wp2_with fail;refine (K2.out _ HB2.out).mono ?_;rintro e w3 ⟨rfl,hb⟩;have HB3:=Lh (HB2.out.trans (hb.mono HB2.out.size));have y:=E2.out.below hb E2.out.lt;have E3:=Lh y;obtain ⟨x0,x1,x2,x3,x4,x5,x6,x7,x8,x9,x10,kG,kH,kI,mI,lS,z3⟩:=fM y;clear hb y;cases q2:Sx.dX cr 1 60 with
 | false=>
  have HF:Hid (R=false):=Lh (by rw [HR.out,Q0.out,Q1.out,q2];simp);go_wp2_with fail;go_ret;exact ⟨aj HF.out.symm,HB3.out⟩
 | true=>
 have Q2:=Lh q2;clear q2;go_wp2_with fail;refine (K3.out _ HB3.out).mono ?_;rintro e w4 ⟨rfl,hb⟩;have oP:=Lh (HB3.out.trans (hb.mono HB3.out.size));have y:=E3.out.below hb E3.out.lt;have E4:=Lh y;obtain ⟨x0,x1,x2,x3,x4,x5,x6,x7,x8,x9,x10,kG,kH,kI,mI,lS,z4⟩:=fM y;clear hb y;cases q3:Sx.dX rp 0 2 with
 | false=>
  have HF:Hid (R=false):=Lh (by rw [HR.out,Q0.out,Q1.out,Q2.out,q3];simp);go_wp2_with fail;go_ret;exact ⟨aj HF.out.symm,oP.out⟩
 | true=>
 have Q3:=Lh q3;clear q3;go_wp2_with fail;refine (K4.out _ oP.out).mono ?_;rintro e w5 ⟨rfl,hb⟩;have rY:=Lh (oP.out.trans (hb.mono oP.out.size));have y:=E4.out.below hb E4.out.lt;have E5:=Lh y;obtain ⟨x0,x1,x2,x3,x4,x5,x6,x7,x8,x9,x10,kG,kH,kI,mI,lS,z5⟩:=fM y;clear hb y;cases q4:pn with
 | false=>
  have HF:Hid (R=false):=Lh (by rw [HR.out,Q0.out,Q1.out,Q2.out,Q3.out,q4];simp);go_wp2_with fail;go_ret;exact ⟨aj HF.out.symm,rY.out⟩
 | true=>
 have Q4:=Lh q4;clear q4;go_wp2_with fail;refine (K5.out _ rY.out).mono ?_;rintro e w6 ⟨rfl,hb⟩;have yQ:=Lh (rY.out.trans (hb.mono rY.out.size));have y:=E5.out.below hb E5.out.lt;have E6:=Lh y;obtain ⟨x0,x1,x2,x3,x4,x5,x6,x7,x8,x9,x10,kG,kH,kI,mI,lS,z6⟩:=fM y;clear hb y;have hR:=HR.out;clear HR;rw[Q0.out,Q1.out,Q2.out,Q3.out,Q4.out] at hR;have HT:Hid (R=(pb)):=Lh (by rw [hR];simp);clear hR;go_wp2_with fail;go_ret;exact ⟨aj HT.out.symm,yQ.out⟩
theorem Lf (x:Sx.Course) (cs:List Value) (w:World) (h:aV w (Old w) x cs):Calls Tryz.prog 122 #[.agg cs.toArray] w (ak (Sx.dw x) w):=by
 obtain ⟨cn,cb,rfl,hn,h1,h2⟩:=h;have k1:=fun W (hW:Below w.heap.size w W)=>tH 16 1 (by decide) (by decide) x.need W cn (cu hW h1);have k2:=fun W (hW:Below w.heap.size w W)=>tH 16 1 (by decide) (by decide) x.bar W cb (cu hW h2);obtain ⟨i0,i1,s2,i3,i4,A5,n5,c5,rfl⟩:=bG h1;obtain ⟨j0,j1,t2,j3,j4,B5,m5,d5,rfl⟩:=bG h2;exact Ja x.name x.number x.aU x.rep i0 i1 s2 i3 i4 A5 n5 c5 j0 j1 t2 j3 j4 B5 m5 d5 _ _ hn w k1 k2
theorem Sj (A0:Option Addr) (n0 c0:Nat) (b0:Bool) (A1:Option Addr) (n1 c1:Nat) (b1:Bool) (A2:Option Addr) (n2 c2:Nat) (b2:Bool) (A3:Option Addr) (n3 c3:Nat) (b3:Bool) (A4:Option Addr) (n4 c4:Nat) (b4:Bool) (A5:Option Addr) (n5 c5:Nat) (b5:Bool) (A6:Option Addr) (n6 c6:Nat) (b6:Bool) (w:World) (h0:∀ W,Below w.heap.size w W→Calls Tryz.prog 121 #[.slice A0 n0 c0,.func (.func 122) #[] #[]] W (ak b0 W)) (h1:∀ W,Below w.heap.size w W→Calls Tryz.prog 123 #[.slice A1 n1 c1,.func (.func 115) #[] #[]] W (ak b1 W)) (h2:∀ W,Below w.heap.size w W→Calls Tryz.prog 124 #[.slice A2 n2 c2,.func (.func 125) #[] #[]] W (ak b2 W)) (h3:∀ W,Below w.heap.size w W→Calls Tryz.prog 126 #[.slice A3 n3 c3,.func (.func 127) #[] #[]] W (ak b3 W)) (h4:∀ W,Below w.heap.size w W→Calls Tryz.prog 128 #[.slice A4 n4 c4,.func (.func 117) #[] #[]] W (ak b4 W)) (h5:∀ W,Below w.heap.size w W→Calls Tryz.prog 126 #[.slice A5 n5 c5,.func (.func 127) #[] #[]] W (ak b5 W)) (h6:∀ W,Below w.heap.size w W→Calls Tryz.prog 129 #[.slice A6 n6 c6,.func (.func 120) #[] #[]] W (ak b6 W)) :
  Calls Tryz.prog 48 #[.agg #[.slice A0 n0 c0,.slice A1 n1 c1,.slice A2 n2 c2,.slice A3 n3 c3,.slice A4 n4 c4,.slice A5 n5 c5,.slice A6 n6 c6]] w (ak (b0 && b1 && b2 && b3 && b4 && b5 && b6) w):=by
 obtain ⟨R,hR⟩:∃ R:Bool,R=(b0 && b1 && b2 && b3 && b4 && b5 && b6):=⟨_,rfl⟩
 rw[←hR];have hb0:Below w.heap.size w (w.alloc (.cells #[.slice A0 n0 c0,.slice A1 n1 c1,.slice A2 n2 c2,.slice A3 n3 c3,.slice A4 n4 c4,.slice A5 n5 c5,.slice A6 n6 c6] 30)):=(Below.refl _ _).alloc (Nat.le_refl _) _;have e0:aC (w.alloc (.cells #[.slice A0 n0 c0,.slice A1 n1 c1,.slice A2 n2 c2,.slice A3 n3 c3,.slice A4 n4 c4,.slice A5 n5 c5,.slice A6 n6 c6] 30)) w.heap.size 30 #[.slice A0 n0 c0,.slice A1 n1 c1,.slice A2 n2 c2,.slice A3 n3 c3,.slice A4 n4 c4,.slice A5 n5 c5,.slice A6 n6 c6]:=aC.new _ _ _;have HB0:=Lh hb0;have E0:=Lh e0;clear hb0 e0;have K0:=Lh (h0);have K1:=Lh (h1)
 have K2:=Lh (h2);have K3:=Lh (h3);have K4:=Lh (h4);have K5:=Lh (h5);have K6:=Lh (h6);have HR:=Lh hR;clear hR;go_enter Tryz.func48,Tryz.ntmps48;go_wp2_with fail;refine (K0.out _ HB0.out).mono ?_;rintro e w1 ⟨rfl,hb⟩;have HB1:=Lh (HB0.out.trans (hb.mono HB0.out.size));have y:=E0.out.below hb E0.out.lt;have E1:=Lh y;obtain ⟨x0,x1,x2,x3,x4,x5,x6,z1⟩:=bJ y;clear hb y;cases q0:b0 with
 | false=>
  have HF:Hid (R=false):=Lh (by rw [HR.out,q0];simp);go_wp2_with fail;go_ret;exact ⟨aj HF.out.symm,HB1.out⟩
 | true=>
 have Q0:=Lh q0;clear q0;go_wp2_with fail;refine (K1.out _ HB1.out).mono ?_;rintro e w2 ⟨rfl,hb⟩;have HB2:=Lh (HB1.out.trans (hb.mono HB1.out.size));have y:=E1.out.below hb E1.out.lt;have E2:=Lh y;obtain ⟨x0,x1,x2,x3,x4,x5,x6,z2⟩:=bJ y;clear hb y;cases q1:b1 with
 | false=>
  have HF:Hid (R=false):=Lh (by rw [HR.out,Q0.out,q1];simp);go_wp2_with fail;go_ret;exact ⟨aj HF.out.symm,HB2.out⟩
 | true=>
 have Q1:=Lh q1;clear q1;go_wp2_with fail;refine (K2.out _ HB2.out).mono ?_;rintro e w3 ⟨rfl,hb⟩;have HB3:=Lh (HB2.out.trans (hb.mono HB2.out.size));have y:=E2.out.below hb E2.out.lt;have E3:=Lh y;obtain ⟨x0,x1,x2,x3,x4,x5,x6,z3⟩:=bJ y;clear hb y;cases q2:b2 with
 | false=>
  have HF:Hid (R=false):=Lh (by rw [HR.out,Q0.out,Q1.out,q2];simp);go_wp2_with fail;go_ret;exact ⟨aj HF.out.symm,HB3.out⟩
 | true=>
 have Q2:=Lh q2;clear q2;go_wp2_with fail;refine (K3.out _ HB3.out).mono ?_;rintro e w4 ⟨rfl,hb⟩;have oP:=Lh (HB3.out.trans (hb.mono HB3.out.size));have y:=E3.out.below hb E3.out.lt;have E4:=Lh y;obtain ⟨x0,x1,x2,x3,x4,x5,x6,z4⟩:=bJ y;clear hb y;cases q3:b3 with
 | false=>
  have HF:Hid (R=false):=Lh (by rw [HR.out,Q0.out,Q1.out,Q2.out,q3];simp);go_wp2_with fail;go_ret;exact ⟨aj HF.out.symm,oP.out⟩
 | true=>
 have Q3:=Lh q3;clear q3;go_wp2_with fail;refine (K4.out _ oP.out).mono ?_;rintro e w5 ⟨rfl,hb⟩;have rY:=Lh (oP.out.trans (hb.mono oP.out.size));have y:=E4.out.below hb E4.out.lt;have E5:=Lh y;obtain ⟨x0,x1,x2,x3,x4,x5,x6,z5⟩:=bJ y;clear hb y;cases q4:b4 with
 | false=>
  have HF:Hid (R=false):=Lh (by rw [HR.out,Q0.out,Q1.out,Q2.out,Q3.out,q4];simp);go_wp2_with fail;go_ret;exact ⟨aj HF.out.symm,rY.out⟩
 | true=>
 have Q4:=Lh q4;clear q4;go_wp2_with fail;refine (K5.out _ rY.out).mono ?_;rintro e w6 ⟨rfl,hb⟩;have yQ:=Lh (rY.out.trans (hb.mono rY.out.size));have y:=E5.out.below hb E5.out.lt;have E6:=Lh y;obtain ⟨x0,x1,x2,x3,x4,x5,x6,z6⟩:=bJ y;clear hb y;cases q5:b5 with
 | false=>
  have HF:Hid (R=false):=Lh (by rw [HR.out,Q0.out,Q1.out,Q2.out,Q3.out,Q4.out,q5];simp);go_wp2_with fail;go_ret;exact ⟨aj HF.out.symm,yQ.out⟩
 | true=>
 have Q5:=Lh q5;clear q5;go_wp2_with fail;refine (K6.out _ yQ.out).mono ?_;rintro e w7 ⟨rfl,hb⟩;have LZ:=Lh (yQ.out.trans (hb.mono yQ.out.size));have y:=E6.out.below hb E6.out.lt;have E7:=Lh y;obtain ⟨x0,x1,x2,x3,x4,x5,x6,z7⟩:=bJ y;clear hb y;have hR:=HR.out;clear HR;rw[Q0.out,Q1.out,Q2.out,Q3.out,Q4.out,Q5.out] at hR;have HT:Hid (R=(b6)):=Lh (by rw [hR];simp);clear hR;go_wp2_with fail;go_ret;exact ⟨aj HT.out.symm,LZ.out⟩
theorem Px (x:Sx.dh) (cs:List Value) (w:World) (h:bE w (Old w) x cs):Calls Tryz.prog 48 #[.agg cs.toArray] w (ak (Sx.eX x) w):=by
 obtain ⟨A0,c0,A1,c1,A2,c2,A3,c3,A4,c4,A5,c5,A6,c6,rfl,h0,h1,h2,h3,h4,h5,h6⟩:=h;exact Sj A0 _ c0 _ A1 _ c1 _ A2 _ c2 _ A3 _ c3 _ A4 _ c4 _ A5 _ c5 _ A6 _ c6 _ w
  (fun W hW=>En A0 c0 x.courses Sx.dw W (h0.keep (P':=aV W (Old W)) (aG hW) fun _ _ _ h=>fZ hW h) (fun x _ cs W' _ h=>Lf x cs W' h))
  (fun W hW=>J2 A1 c1 x.same Sx.gW W (h1.keep (P':=fq) (aG hW) fun _ _ _ h=>h) (fun x _ cs W' _ h=>Qx x cs W' h))
  (fun W hW=>J6 A2 c2 x.aS Sx.dW W (h2.keep (P':=bS W (Old W)) (aG hW) fun _ _ _ h=>iy hW h) (fun x _ cs W' _ h=>Qw x cs W' h))
  (fun W hW=>Fz A3 c3 x.classes Sx.fT W (h3.keep (P':=eu) (aG hW) fun _ _ _ h=>h) (fun x _ cs W' _ h=>Pe x cs W' h))
  (fun W hW=>Na A4 c4 x.bZ Sx.jo W (h4.keep (P':=gG) (aG hW) fun _ _ _ h=>h) (fun x _ cs W' _ h=>UR x cs W' h))
  (fun W hW=>Fz A5 c5 x.aJ Sx.fT W (h5.keep (P':=eu) (aG hW) fun _ _ _ h=>h) (fun x _ cs W' _ h=>Pe x cs W' h))
  (fun W hW=>Es A6 c6 x.clauses Sx.dL W (h6.keep (P':=bH) (aG hW) fun _ _ _ h=>h) (fun x _ cs W' _ h=>Kc x cs W' h))
def kF (s:List UInt8) (x:Int) (w:World) (e:Ending) (w':World):Prop:=e = .returned (.tuple #[.string (Lx.bs s),.int .i64 x])∧Below w.heap.size w w'
theorem iq.new (w:World):iq w.heap.size [] (w.alloc (.cells #[.slice none 0 0] 110)):=
 ⟨.slice none 0 0,aC.new _ _ _,by refine ⟨?_,.inl ⟨rfl,rfl⟩⟩;simp⟩
theorem iq.toks {g:Nat} {l:List Lx.Tok} {w:World} (h:iq g l w) (hl:l.length≤65536) (ht:∀ t∈l,t.text.length≤65536):∃ A c,w.cell? ⟨g,0,none⟩=some (.slice A l.length c)∧iw w w.heap.size A l:=by
 obtain ⟨vT,hb,hown⟩:=h;obtain ⟨A,c,rfl⟩:∃ A c,vT = .slice A l.length c:=by
  rcases hown.2 with ⟨rfl,h0⟩ | ⟨z,cap,cur,e,-⟩
  ·exact ⟨_,_,by rw [h0]⟩
  ·exact ⟨_,_,e⟩
 exact ⟨A,c,by have:=hb.cell 0;simpa using this,wM hown hl ht⟩
theorem qU (r:Sx.Rule) (cs:List Value) (w:World) (h:aB w (Old w) r cs) (hk:Sx.aO 16 r=false):Calls Tryz.prog 22 #[.agg cs.toArray] w (kF [] 100 w):=by
 obtain ⟨i0,i1,s2,i3,i4,A5,n5,c5,rfl⟩:=bG h;obtain ⟨W,hW⟩:∃ W,W=w.alloc (.cells #[.int .i64 i0,.int .i64 i1,.string s2,.int .i64 i3,.int .i64 i4,.slice A5 n5 c5] 38):=⟨_,rfl⟩
 have hbw:Below w.heap.size w W:=by rw [hW];exact (Below.refl _ _).alloc (Nat.le_refl _) _
 have K:=Lh (tH 16 1 (by decide) (by decide) r W _ (cu hbw h));rw[hk] at K;have HB:=Lh hbw;clear h hk hbw;go_enter Tryz.func22,Tryz.ntmps22;go_wp2_with fail;rw[←hW];refine K.out.mono ?_;rintro e w1 ⟨rfl,hb⟩;have HB1:=Lh (HB.out.trans (hb.mono HB.out.size));clear hb;go_wp2_with fail;go_ret2;exact ⟨rfl,HB1.out⟩
theorem yg (N:Nat) (r:Sx.Rule) (cs:List Value) (s:List UInt8) (w:World) (he:d9 N w) (h:aB w (Old w) r cs) (hk:Sx.aO 16 r=true) (hl:(Sx.aF r).length≤60000) (ht:Lx.text (Sx.aF r)=some s) (hx:∀ t∈Sx.aF r,t.text.length≤65536) :
  Calls Tryz.prog 22 #[.agg cs.toArray] w (kF s 0 w):=by
 obtain ⟨i0,i1,s2,i3,i4,A5,n5,c5,rfl⟩:=bG h;obtain ⟨W,hW⟩:∃ W,W=w.alloc (.cells #[.int .i64 i0,.int .i64 i1,.string s2,.int .i64 i3,.int .i64 i4,.slice A5 n5 c5] 38):=⟨_,rfl⟩
 have hbw:Below w.heap.size w W:=by rw [hW];exact (Below.refl _ _).alloc (Nat.le_refl _) _
 have hbx:aC W w.heap.size 38 #[.int .i64 i0,.int .i64 i1,.string s2,.int .i64 i3,.int .i64 i4,.slice A5 n5 c5]:=by rw [hW];exact aC.new _ _ _
 have K:=Lh (tH 16 1 (by decide) (by decide) r W _ (cu hbw h));rw[hk] at K;have HB:=Lh hbw;have VN:=Lh hbx;have HE:=Lh he;have H:=Lh h;have Hk:=Lh hk;have Hl:=Lh hl;have Ht:=Lh ht;have Hx:=Lh hx;have hN:=he.size;clear h hk hbw hbx he hl ht hx;go_enter Tryz.func22,Tryz.ntmps22;go_wp2_with fail;rw[←hW];refine K.out.mono ?_;rintro e w1 ⟨rfl,hb⟩;have HB1:=Lh (HB.out.trans (hb.mono HB.out.size));have y:=VN.out.below hb VN.out.lt;have x0:=y.cell 0;have x1:=y.cell 1;have x2:=y.cell 2;have x3:=y.cell 3;have x4:=y.cell 4;have x5:=y.cell 5;simp at x0 x1 x2 x3 x4 x5;have z1:=y.lt;clear hb y
 go_wp2_with fail;obtain ⟨W2,hW2⟩:∃ W2,W2=w1.alloc (.cells #[.slice none 0 0] 110):=⟨_,rfl⟩
 have hb2:Below w1.heap.size w1 W2:=by rw [hW2];exact (Below.refl _ _).alloc (Nat.le_refl _) _
 have hb3:=HB1.out.trans (hb2.mono HB1.out.size);have hst:iq w1.heap.size [] W2:=by rw [hW2];exact iq.new w1
 have lI:=wz w1.heap.size N (Nat.le_trans hN HB1.out.size) 16 r Hk.out _ W2 (HE.out.next hb3) (aB.keep (fun b hb=>⟨Nat.lt_of_lt_of_le hb HB1.out.size,fun i=>hb3.cell (p:=⟨b,i,none⟩) hb⟩) _ _ H.out);rw[←hW2];refine (lI.2 [] W2 hst (Below.refl _ _) (by simpa using Hl.out)).mono ?_;rintro e w3 ⟨rfl,h3,h4,h5⟩;rw[List.nil_append] at h3;obtain ⟨A,c,g0,hT⟩:=h3.toks (by have:=Hl.out;omega) Hx.out;have hlt3:=h3.lt;have hb4:Below w.heap.size w w3:=hb3.trans (h4.mono HB1.out.size);have hfin:=Gf A c (Sx.aF r) s w3 (HE.out.next hb4).env hT (by have:=Hl.out;omega) Ht.out
 have OB:=Lh hfin;have oP:=Lh hb4;clear hfin hb4 hT h3 h4 h5 lI hst hb3 hb2;go_wp2_with fail;refine OB.out.mono ?_;rintro e w5 ⟨rfl,hb5,-⟩;have rY:=Lh (oP.out.trans (hb5.mono oP.out.size));clear hb5;go_wp2_with fail;go_ret2;exact ⟨rfl,rY.out⟩
end Go.Proofs.YtjonaidancomgaaGreatDoor
