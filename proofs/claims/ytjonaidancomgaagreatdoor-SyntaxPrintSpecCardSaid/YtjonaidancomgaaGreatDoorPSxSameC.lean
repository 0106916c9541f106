/- Parts of the proof, joined into one text: Xr, q1P, q0u, Xt. -/
import Derived.Test.YtjonaidancomgaaGreatDoorPLxI
import Derived.Test.YtjonaidancomgaaGreatDoorPSxPrQ
import Derived.Test.YtjonaidancomgaaGreatDoorPSxVal
import Derived.Deep.RegionHeldLaw
import Derived.Test.YtjonaidancomgaaGreatDoorPLxE
import Derived.Deep.WholeRow
set_option maxHeartbeats 16000000
set_option maxRecDepth 20000
namespace Go.Proofs.YtjonaidancomgaaGreatDoor
open Go.RowKit
def Sx.nD (a b:Sx.Course):Bool:=a.name == b.name && (a.number == b.number && (a.aU == b.aU && (a.rep == b.rep && (Sx.jw a.need b.need && Sx.jw a.bar b.bar))))
theorem Sx.nZ (a b:Sx.Course):Sx.nD a b=true↔a=b:=by
 obtain ⟨n,o,c,r,d,e⟩:=a;obtain ⟨n',o',c',r',d',e'⟩:=b;unfold Sx.nD;simp only[Bool.and_eq_true,beq_iff_eq,Sx.jB,Sx.Course.mk.injEq]
theorem Dr (a b:Sx.Course) (w:World) (ca cb:List Value) (ha:aV w (Old w) a ca) (hb:aV w (Old w) b cb) :
  Calls Tryz.prog 41 #[.agg ca.toArray,.agg cb.toArray] w (ak (Sx.nD a b) w):=by
 obtain ⟨an,ao,ac,ar,⟨Tj,cop,Tk,np,dp,Tm⟩,⟨opq,VW,VX,nq,dq,VY⟩⟩:=a;obtain ⟨bn,bo,bc,br,⟨ops,cos,nms,ns,ds,Tn⟩,⟨opt,VZ,V4,nt,dt,V5⟩⟩:=b;obtain ⟨c1,c2,rfl,-,h1,h2⟩:=ha;obtain ⟨c3,c4,rfl,-,h3,h4⟩:=hb;have H1:=h1;have H2:=h2;have H3:=h3;have H4:=h4;rw[aB] at h1 h2 h3 h4;obtain ⟨Ap,cp,rfl,-,-,-⟩:=h1;obtain ⟨Aq,cq,rfl,-,-,-⟩:=h2;obtain ⟨As,cs,rfl,-,-,-⟩:=h3;obtain ⟨At,ct,rfl,-,-,-⟩:=h4;simp only[aT,bB] at H1 H2 H3 H4 ⊢
 obtain ⟨R,hR⟩:∃ R,R=Sx.nD ⟨an,ao,ac,ar,.mk Tj cop Tk np dp Tm,.mk opq VW VX nq dq VY⟩ ⟨bn,bo,bc,br,.mk ops cos nms ns ds Tn,.mk opt VZ V4 nt dt V5⟩:=⟨_,rfl⟩
 rw[←hR];unfold Sx.nD at hR;simp only at hR;simp only[List.cons_append,List.nil_append]
 obtain ⟨W,hW⟩:∃ W,W=(w.alloc (.cells #[.string (Lx.bs an),.int .i64 ao,.int .i64 ac,.int .i64 ar,.int .i64 Tj,.int .i64 cop,.string (Lx.bs Tk),.int .i64 np,.int .i64 dp,.slice Ap Tm.length cp,.int .i64 opq,.int .i64 VW,.string (Lx.bs VX),.int .i64 nq,.int .i64 dq,.slice Aq VY.length cq] 58)).alloc (.cells #[.string (Lx.bs bn),.int .i64 bo,.int .i64 bc,.int .i64 br,.int .i64 ops,.int .i64 cos,.string (Lx.bs nms),.int .i64 ns,.int .i64 ds,.slice As Tn.length cs,.int .i64 opt,.int .i64 VZ,.string (Lx.bs V4),.int .i64 nt,.int .i64 dt,.slice At V5.length ct] 58):=⟨_,rfl⟩
 have hb0:Below w.heap.size w W:=by rw [hW];exact ((Below.refl _ _).alloc (Nat.le_refl _) _).alloc (by simp) _
 have e0:aC W w.heap.size 58 #[.string (Lx.bs an),.int .i64 ao,.int .i64 ac,.int .i64 ar,.int .i64 Tj,.int .i64 cop,.string (Lx.bs Tk),.int .i64 np,.int .i64 dp,.slice Ap Tm.length cp,.int .i64 opq,.int .i64 VW,.string (Lx.bs VX),.int .i64 nq,.int .i64 dq,.slice Aq VY.length cq]:=by rw [hW];exact (aC.new _ _ _).alloc _
 have e1:aC W (w.heap.size+1) 58 #[.string (Lx.bs bn),.int .i64 bo,.int .i64 bc,.int .i64 br,.int .i64 ops,.int .i64 cos,.string (Lx.bs nms),.int .i64 ns,.int .i64 ds,.slice As Tn.length cs,.int .i64 opt,.int .i64 VZ,.string (Lx.bs V4),.int .i64 nt,.int .i64 dt,.slice At V5.length ct]:=by rw [hW];exact aC.aZ _ _ (by simp)
 have E0:=Lh e0;have E1:=Lh e1;have HB0:=Lh hb0;have K1:=Lh (H1.old hb0);have K2:=Lh (H2.old hb0);have K3:=Lh (H3.old hb0);have K4:=Lh (H4.old hb0);have hWs:=hb0.size;clear e0 e1 hb0 H1 H2 H3 H4;have hbs:((Lx.bs an).toList == (Lx.bs bn).toList)=(an == bn):=by rw [ByteArray.toList_eq,ByteArray.toList_eq,Lx.aK,Lx.aK]
 cases q0:an == bn with
 | false=>
  rw[q0] at hbs;have HR:Hid (R=false):=Lh (by rw [hR,q0];rfl);clear hR;go_enter Tryz.func41,Tryz.ntmps41;go_wp2_with fail
  try rw [←hW]
  go_ret;exact ⟨aj HR.out.symm,HB0.out⟩
 | true=>
 rw[q0] at hbs;rw[q0,Bool.true_and] at hR;cases q1:ao == bo with
 | false=>
  have HR:Hid (R=false):=Lh (by rw [hR,q1];rfl);clear hR;go_enter Tryz.func41,Tryz.ntmps41;go_wp2_with fail
  try rw [←hW]
  go_ret;exact ⟨aj HR.out.symm,HB0.out⟩
 | true=>
 rw[q1,Bool.true_and] at hR;cases q2:ac == bc with
 | false=>
  have HR:Hid (R=false):=Lh (by rw [hR,q2];rfl);clear hR;go_enter Tryz.func41,Tryz.ntmps41;go_wp2_with fail
  try rw [←hW]
  go_ret;exact ⟨aj HR.out.symm,HB0.out⟩
 | true=>
 rw[q2,Bool.true_and] at hR;cases q3:ar == br with
 | false=>
  have HR:Hid (R=false):=Lh (by rw [hR,q3];rfl);clear hR;go_enter Tryz.func41,Tryz.ntmps41;go_wp2_with fail
  try rw [←hW]
  go_ret;exact ⟨aj HR.out.symm,HB0.out⟩
 | true=>
 rw[q3,Bool.true_and] at hR;have HR:=Lh hR;have Te:=Lh (qp _ (.mk Tj cop Tk np dp Tm) (.mk ops cos nms ns ds Tn) (Nat.lt_succ_self _) W [.int .i64 Tj,.int .i64 cop,.string (Lx.bs Tk),.int .i64 np,.int .i64 dp,.slice Ap Tm.length cp] [.int .i64 ops,.int .i64 cos,.string (Lx.bs nms),.int .i64 ns,.int .i64 ds,.slice As Tn.length cs] K1.out K3.out);clear hR;go_enter Tryz.func41,Tryz.ntmps41;go_wp2_with fail
 try rw [←hW]
 clear hW q0 q1 q2 q3 hbs;refine Te.out.mono ?_;rintro e w1 ⟨rfl,hb1⟩;have B1:=Lh (HB0.out.trans (hb1.mono HB0.out.size));cases r0:Sx.jw (.mk Tj cop Tk np dp Tm) (.mk ops cos nms ns ds Tn) with
 | false=>
  have HR2:Hid (R=false):=Lh (by rw [HR.out,r0];rfl);clear hb1 HR r0;go_wp2_with fail;go_ret;exact ⟨aj HR2.out.symm,B1.out⟩
 | true=>
  have hR2:=HR.out;rw[r0,Bool.true_and] at hR2;have HR2:=Lh hR2;have d0:=E0.out.below hb1 E0.out.lt;have d1:=E1.out.below hb1 E1.out.lt;have x10:=d0.cell 10;have FM:=d1.cell 10;have kG:=d0.cell 11;have ND:=d1.cell 11;have kH:=d0.cell 12;have NG:=d1.cell 12;have kI:=d0.cell 13;have y13:=d1.cell 13;have mI:=d0.cell 14;have NH:=d1.cell 14;have lS:=d0.cell 15;have NI:=d1.cell 15;simp at x10 FM kG ND kH NG kI y13 mI NH lS NI
  have Ma:=Lh (qp _ (.mk opq VW VX nq dq VY) (.mk opt VZ V4 nt dt V5) (Nat.lt_succ_self _) w1 [.int .i64 opq,.int .i64 VW,.string (Lx.bs VX),.int .i64 nq,.int .i64 dq,.slice Aq VY.length cq] [.int .i64 opt,.int .i64 VZ,.string (Lx.bs V4),.int .i64 nt,.int .i64 dt,.slice At V5.length ct] (K2.out.old hb1) (K4.out.old hb1));clear hb1 HR r0 hR2 d0 d1;go_wp2_with fail;refine Ma.out.mono ?_;rintro e w2 ⟨rfl,hb2⟩;have B2:=Lh (B1.out.trans (hb2.mono B1.out.size));clear hb2;go_wp2_with fail;go_ret;exact ⟨aj HR2.out.symm,B2.out⟩
theorem wD (A0 A1 A2 A3 A4 A5 A6:Option Addr) (n0 n1 n2 n3 n4 n5 n6 c0 c1 c2 c3 c4 c5 c6:Nat) (w:World) :
  Calls Tryz.prog 40 #[.agg #[.slice A0 n0 c0,.slice A1 n1 c1,.slice A2 n2 c2,.slice A3 n3 c3,.slice A4 n4 c4,.slice A5 n5 c5,.slice A6 n6 c6]] w fun e w'=>e = .returned (.agg #[.slice A3 n3 c3,.slice A4 n4 c4,.slice A5 n5 c5,.slice A6 n6 c6])∧Below w.heap.size w w':=by
 go_enter Tryz.func40,Tryz.ntmps40;go_wp2_with fail
 try simp only [Exit.inBlock,Exit.then]
 refine bodyPost_ret (v:=.agg #[.slice A3 n3 c3,.slice A4 n4 c4,.slice A5 n5 c5,.slice A6 n6 c6]) (by simp [results,Tryz.results40,go_sem]) rfl ⟨rfl,?_⟩
 first
  | exact ((Below.refl _ _).alloc (Nat.le_refl _) _).alloc (by simp) _
  | exact ((((((Below.refl _ _).alloc (Nat.le_refl _) _).alloc (by simp) _).setCell (by simp) _).setCell (by simp) _).setCell (by simp) _).setCell (by simp) _
theorem Dt (A0 A1 A2 A3 B0 B1 B2 B3:Option Addr) (c0 c1 c2 c3 d0 d1 d2 d3:Nat) (l0 m0 l2 m2:List Sx.Cls) (l1 m1:List Sx.tL) (l3 m3:List Sx.Clause) (w:World)
  (a0:Row w (Old w) A0 4 eu l0) (a1:Row w (Old w) A1 2 gG l1) (a2:Row w (Old w) A2 4 eu l2) (a3:Row w (Old w) A3 4 bH l3) (b0:Row w (Old w) B0 4 eu m0) (b1:Row w (Old w) B1 2 gG m1) (b2:Row w (Old w) B2 4 eu m2) (b3:Row w (Old w) B3 4 bH m3) :
  Calls Tryz.prog 39 #[.agg #[.slice A0 l0.length c0,.slice A1 l1.length c1,.slice A2 l2.length c2,.slice A3 l3.length c3],.agg #[.slice B0 m0.length d0,.slice B1 m1.length d1,.slice B2 m2.length d2,.slice B3 m3.length d3]] w (ak (decide (l0=m0∧l2=m2∧l1=m1∧l3=m3)) w):=by
 obtain ⟨R,hR⟩:∃ R,R=decide (l0=m0∧l2=m2∧l1=m1∧l3=m3):=⟨_,rfl⟩
 rw[←hR];have z1:=a1.len;have z3:=a3.len;have y1:=b1.len;have y3:=b3.len;obtain ⟨k0,hk0⟩:∃ k,k=l0.length:=⟨_,rfl⟩
 obtain ⟨k0',hk0'⟩:∃ k,k=m0.length:=⟨_,rfl⟩
 obtain ⟨k2,hk2⟩:∃ k,k=l2.length:=⟨_,rfl⟩
 obtain ⟨k2',Sk⟩:∃ k,k=m2.length:=⟨_,rfl⟩
 obtain ⟨n1,hn1⟩:∃ k,k=l1.length:=⟨_,rfl⟩
 obtain ⟨p1,hp1⟩:∃ k,k=m1.length:=⟨_,rfl⟩
 obtain ⟨n3,rH⟩:∃ k,k=l3.length:=⟨_,rfl⟩
 obtain ⟨p3,hp3⟩:∃ k,k=m3.length:=⟨_,rfl⟩
 obtain ⟨W,hW⟩:∃ W,W=(w.alloc (.cells #[.slice A0 k0 c0,.slice A1 n1 c1,.slice A2 k2 c2,.slice A3 n3 c3] 96)).alloc (.cells #[.slice B0 k0' d0,.slice B1 p1 d1,.slice B2 k2' d2,.slice B3 p3 d3] 96):=⟨_,rfl⟩
 have hb0:Below w.heap.size w W:=by rw [hW];exact ((Below.refl _ _).alloc (Nat.le_refl _) _).alloc (by simp) _
 have e0:aC W w.heap.size 96 #[.slice A0 k0 c0,.slice A1 n1 c1,.slice A2 k2 c2,.slice A3 n3 c3]:=by rw [hW];exact (aC.new _ _ _).alloc _
 have e1:aC W (w.heap.size+1) 96 #[.slice B0 k0' d0,.slice B1 p1 d1,.slice B2 k2' d2,.slice B3 p3 d3]:=by rw [hW];exact aC.aZ _ _ (by simp)
 have E0:=Lh e0;have E1:=Lh e1;have HB0:=Lh hb0;have HR:=Lh hR;have Hc0:=Lh (tC A0 B0 c0 d0 l0 m0 W (a0.old hb0) (b0.old hb0));have Ma:=Lh (fun W' (hb:Below w.heap.size w W')=>tC A2 B2 c2 d2 l2 m2 W' (a2.old hb) (b2.old hb));have HA1:=Lh (fun W' (hb:Below w.heap.size w W')=>a1.old hb);have HA3:=Lh (fun W' (hb:Below w.heap.size w W')=>Row.old (P:=bH) a3 hb);have HB1:=Lh (fun W' (hb:Below w.heap.size w W')=>b1.old hb);have HB3:=Lh (fun W' (hb:Below w.heap.size w W')=>Row.old (P:=bH) b3 hb);rw[←hk0,←hk0'] at Hc0;rw[←hk2,←Sk] at Ma
 rw[←hk0,←hk0',←hk2,←Sk,←hn1,←hp1,←rH,←hp3];rw[←hn1] at z1;rw[←rH] at z3;rw[←hp1] at y1;rw[←hp3] at y3;have tO:=Lh hn1;have Lg:=Lh hp1;have yS:=Lh rH;have Hm3:=Lh hp3;have hWs:=hb0.size;clear hR e0 e1 hb0 a0 a1 a2 a3 b0 b1 b2 b3 hk0 hk0' hk2 Sk hn1 hp1 rH hp3;go_enter Tryz.func39,Tryz.ntmps39;go_wp2_with fail
 try rw [←hW]
 clear hW;refine Hc0.out.mono ?_;rintro e w1 ⟨rfl,hb1⟩;have V6:=Lh (HB0.out.trans (hb1.mono HB0.out.size));have D0:=Lh (E0.out.below hb1 E0.out.lt);have D1:=Lh (E1.out.below hb1 E1.out.lt);clear hb1;cases q0:decide (l0=m0) with
 | false=>
  have HR2:Hid (R=false):=Lh (by rw [HR.out];exact decide_eq_false fun e=>by simp [e.1] at q0);clear q0;go_wp2_with fail;go_ret;exact ⟨aj HR2.out.symm,V6.out⟩
 | true=>
 have sO:=HR.out;have q0':l0=m0:=by simpa using q0
 have x2:=D0.out.cell 2;have y2:=D1.out.cell 2;simp at x2 y2;have hw1:=V6.out.size;have Hc3:=Lh (Ma.out w1 V6.out);have Q0:=Lh q0';clear q0 sO q0' Ma Hc0;go_wp2_with fail;refine Hc3.out.mono ?_;rintro e w2 ⟨rfl,hb2⟩;have B2:=Lh (V6.out.trans (hb2.mono V6.out.size));have G0:=D0.out.below hb2 D0.out.lt;have G1:=D1.out.below hb2 D1.out.lt;have g1:=G0.cell 1;have h1:=G1.cell 1;have g3:=G0.cell 3;have h3:=G1.cell 3;simp at g1 h1 g3 h3;have hg0:=G0.lt;have hg1:=G1.lt
 have V7:=Lh (HA1.out w2 B2.out);have RA3:=Lh (HA3.out w2 B2.out);have V8:=Lh (HB1.out w2 B2.out);have RB3:=Lh (HB3.out w2 B2.out);clear hb2 G0 G1 HA1 HA3 HB1 HB3 Hc3 x2 y2 E0 E1 D0 D1;cases q2:decide (l2=m2) with
 | false=>
  have HR2:Hid (R=false):=Lh (by rw [HR.out];exact decide_eq_false fun e=>by simp [e.2.1] at q2);clear q2;go_wp2_with fail;go_ret;exact ⟨aj HR2.out.symm,B2.out⟩
 | true=>
 cases r1:((n1:Int) != (p1:Int)) with
 | true=>
  have HR2:Hid (R=false):=Lh (by rw [HR.out];exact decide_eq_false fun e=>by have:=tO.out;have:=Lg.out;rw[e.2.2.1] at *;simp at r1;omega);clear q2;go_wp2_with fail;go_ret;exact ⟨aj HR2.out.symm,B2.out⟩
 | false=>
 cases r3:((n3:Int) != (p3:Int)) with
 | true=>
  have HR2:Hid (R=false):=Lh (by rw [HR.out];exact decide_eq_false fun e=>by have:=yS.out;have:=Hm3.out;rw[e.2.2.2] at *;simp at r3;omega);clear q2;go_wp2_with fail;go_ret;exact ⟨aj HR2.out.symm,B2.out⟩
 | false=>
 have PO:R=decide (l1=m1∧l3=m3):=by
  have e2:l2=m2:=by simpa using q2
  rw[HR.out,Q0.out,e2];simp
 clear HR;have HR:=Lh PO;obtain rfl:n1=p1:=by have:(n1:Int)=p1:=(by simpa using r1);omega
 obtain rfl:n3=p3:=by have:(n3:Int)=p3:=(by simpa using r3);omega
 clear PO q2 r1 r3 Q0;go_wp2_with fail
 go_loopg [5] n1 (fun gk v5 wr=>∃ i nn:Nat,v5 = .int .i64 i∧i+gk=n1∧wr=w2.drewN nn∧Hid (∀ j,j < i→l1[j]?=m1[j]?))
 case atStart=>exact ⟨0,0,rfl,by omega,rfl,Lh (fun j hj=>absurd hj (Nat.not_lt_zero j))⟩
 case round=>
  obtain ⟨i,nn,rfl,hi,rfl,dQ⟩:=hrel
  by_cases hlt:i < n1
  ·obtain ⟨x,hx⟩:∃ x,l1[i]?=some x:=⟨_,List.getElem?_eq_getElem (by have:=tO.out;omega)⟩
   obtain ⟨y,hy⟩:∃ y,m1[i]?=some y:=⟨_,List.getElem?_eq_getElem (by have:=Lg.out;omega)⟩
   obtain ⟨bx,ox,Xn,rfl,_,hpx,hcx⟩:=V7.out.at_ i x hx;obtain ⟨Jl,oy,Xo,rfl,_,hpy,hcy⟩:=V8.out.at_ i y hy;obtain rfl:=hpx.1;obtain rfl:=hpy.1;have x0:=hcx 0 _ rfl;have y0:=hcy 0 _ rfl;have x1:=hcx 1 _ rfl;have y1:=hcy 1 _ rfl;simp only[Nat.add_zero,aT,bB] at x0 y0 x1 y1;have Hx:=Lh hx;have Hy:=Lh hy;clear hcx hcy hx hy;have hneq:=FQ x y;unfold yP at hneq;cases hq:decide (x=y) with
   | false=>
    have HR2:Hid (R=false):=Lh (by
     rw[HR.out];refine decide_eq_false fun e0=>?_;have hxy:x≠y:=fun e=>by simp [e] at hq
     have h1:=Hx.out;rw[e0.1,Hy.out] at h1;injection h1 with h1;exact hxy h1.symm)
    rw[hq] at hneq;clear hq;go_wp2_with fail
    go_quiet (fail)
    go_wp2_with fail;go_ret;exact ⟨aj HR2.out.symm,ay (ay B2.out _) _⟩
   | true=>
    have hnx:=bY dQ.out (by have e:x=y:=(by simpa using hq);rw[Hx.out,Hy.out,e]);have mW:=Lh hnx;rw[hq] at hneq;clear hnx hq;go_wp2_with fail
    go_quiet (fail)
    go_wp2_with fail
    go_roundg (gk - 1)
    all_goals first
     | omega
     | exact ⟨i+1,_,by go_num,by omega,(by first | rfl | exact World.drewN_drewN _ _ _),Lh mW.out⟩
  ·obtain rfl:i=n1:=by omega
   have hall:l1=m1:=dG dQ.out tO.out Lg.out;have sO:=HR.out;rw[hall] at sO;simp only[true_and] at sO;clear HR;have HR:=Lh sO;clear sO hall dQ hi hlt;go_wp2_with fail
   go_loopg [6] n3 (fun gk v6 wr=>∃ i nn:Nat,v6 = .int .i64 i∧i+gk=n3∧wr=w2.drewN nn∧Hid (∀ j,j < i→l3[j]?=m3[j]?))
   case atStart=>exact ⟨0,nn,rfl,by omega,rfl,Lh (fun j hj=>absurd hj (Nat.not_lt_zero j))⟩
   case round=>
    obtain ⟨i,nn,rfl,hi,rfl,dQ⟩:=hrel
    by_cases hlt:i < n3
    ·obtain ⟨x,hx⟩:∃ x,l3[i]?=some x:=⟨_,List.getElem?_eq_getElem (by have:=yS.out;omega)⟩
     obtain ⟨y,hy⟩:∃ y,m3[i]?=some y:=⟨_,List.getElem?_eq_getElem (by have:=Hm3.out;omega)⟩
     obtain ⟨bx,ox,Xn,rfl,_,hpx,hcx⟩:=RA3.out.at_ i x hx;obtain ⟨Jl,oy,Xo,rfl,_,hpy,hcy⟩:=RB3.out.at_ i y hy;obtain rfl:=hpx;obtain rfl:=hpy;have x0:=hcx 0 _ rfl;have y0:=hcy 0 _ rfl;have x1:=hcx 1 _ rfl;have y1:=hcy 1 _ rfl;have x2:=hcx 2 _ rfl;have y2:=hcy 2 _ rfl;have x3:=hcx 3 _ rfl;have y3:=hcy 3 _ rfl;simp only[Nat.add_zero,aT] at x0 y0 x1 y1 x2 y2 x3 y3;have Hx:=Lh hx;have Hy:=Lh hy;clear hcx hcy hx hy;have hneq:=xG x y;unfold jI at hneq;cases hq:decide (x=y) with
     | false=>
      have HR2:Hid (R=false):=Lh (by
       rw[HR.out];refine decide_eq_false fun e0=>?_;have hxy:x≠y:=fun e=>by simp [e] at hq
       have h1:=Hx.out;rw[e0,Hy.out] at h1;injection h1 with h1;exact hxy h1.symm)
      rw[hq] at hneq;clear hq;go_wp2_with fail
      go_quiet (fail)
      go_wp2_with fail;go_ret;exact ⟨aj HR2.out.symm,ay (ay B2.out _) _⟩
     | true=>
      have hnx:=bY dQ.out (by have e:x=y:=(by simpa using hq);rw[Hx.out,Hy.out,e]);have mW:=Lh hnx;rw[hq] at hneq;clear hnx hq;go_wp2_with fail
      go_quiet (fail)
      go_wp2_with fail
      go_roundg (gk - 1)
      all_goals first
       | omega
       | exact ⟨i+1,_,by go_num,by omega,(by first | rfl | exact World.drewN_drewN _ _ _),Lh mW.out⟩
    ·obtain rfl:i=n3:=by omega
     have hall:l3=m3:=dG dQ.out yS.out Hm3.out;have HR2:Hid (R=true):=Lh (by rw [HR.out,hall];simp);go_wp2_with fail;go_ret;exact ⟨aj HR2.out.symm,ay B2.out _⟩
instance : DecidableEq Sx.Rule := fun a b => decidable_of_iff _ (Sx.jB a b)
instance : DecidableEq Sx.Course := fun a b => decidable_of_iff _ (Sx.nZ a b)
instance : DecidableEq Sx.dh := fun a b => decidable_of_iff (a.courses = b.courses ∧ a.same = b.same ∧ a.aS = b.aS ∧ a.classes = b.classes ∧ a.bZ = b.bZ ∧ a.aJ = b.aJ ∧ a.clauses = b.clauses) (by cases a; cases b; simp)
theorem Jq (a b:Sx.dh) (w:World) (ca cb:List Value) (ha:bE w (Old w) a ca) (hb:bE w (Old w) b cb) :
  Calls Tryz.prog 14 #[.agg ca.toArray,.agg cb.toArray] w (ak (decide (a=b)) w):=by
 obtain ⟨l0,l1,l2,l3,l4,l5,l6⟩:=a;obtain ⟨k0,k1,k2,k3,k4,k5,k6⟩:=b;obtain ⟨A0,c0,A1,c1,A2,c2,A3,c3,A4,c4,A5,c5,A6,c6,rfl,a0,a1,a2,a3,a4,a5,a6⟩:=ha;obtain ⟨B0,d0,B1,d1,B2,d2,B3,d3,B4,d4,B5,d5,B6,d6,rfl,b0,b1,b2,b3,b4,b5,b6⟩:=hb;obtain ⟨R,hR⟩:∃ R,R=decide ((⟨l0,l1,l2,l3,l4,l5,l6⟩:Sx.dh)=⟨k0,k1,k2,k3,k4,k5,k6⟩):=⟨_,rfl⟩
 rw[←hR];simp only[Sx.dh.mk.injEq] at hR;have Jb:=Lh (fun W' (hb:Below w.heap.size w W')=>Dt A3 A4 A5 A6 B3 B4 B5 B6 c3 c4 c5 c6 d3 d4 d5 d6 l3 k3 l5 k5 l4 k4 l6 k6 W' (a3.old hb) (a4.old hb) (a5.old hb) (Row.old (P:=bH) a6 hb) (b3.old hb) (b4.old hb) (b5.old hb) (Row.old (P:=bH) b6 hb));simp only at a0 a1 a2 b0 b1 b2 ⊢;obtain ⟨n0,hn0⟩:∃ n,n=l0.length:=⟨_,rfl⟩
 obtain ⟨m0,hm0⟩:∃ m,m=k0.length:=⟨_,rfl⟩
 obtain ⟨n1,hn1⟩:∃ n,n=l1.length:=⟨_,rfl⟩
 obtain ⟨m1,hm1⟩:∃ m,m=k1.length:=⟨_,rfl⟩
 obtain ⟨n2,hn2⟩:∃ n,n=l2.length:=⟨_,rfl⟩
 obtain ⟨m2,hm2⟩:∃ m,m=k2.length:=⟨_,rfl⟩
 obtain ⟨n3,rH⟩:∃ n,n=l3.length:=⟨_,rfl⟩
 obtain ⟨m3,S9⟩:∃ m,m=k3.length:=⟨_,rfl⟩
 obtain ⟨n4,uS⟩:∃ n,n=l4.length:=⟨_,rfl⟩
 obtain ⟨m4,Ta⟩:∃ m,m=k4.length:=⟨_,rfl⟩
 obtain ⟨n5,uT⟩:∃ n,n=l5.length:=⟨_,rfl⟩
 obtain ⟨m5,Tc⟩:∃ m,m=k5.length:=⟨_,rfl⟩
 obtain ⟨n6,uU⟩:∃ n,n=l6.length:=⟨_,rfl⟩
 obtain ⟨m6,Td⟩:∃ m,m=k6.length:=⟨_,rfl⟩
 have z0:=a0.len;have y0:=b0.len;rw[←hn0] at z0;rw[←hm0] at y0;have z1:=a1.len;have y1:=b1.len;rw[←hn1] at z1;rw[←hm1] at y1;have z2:=a2.len;have y2:=b2.len;rw[←hn2] at z2;rw[←hm2] at y2;simp only[←rH,←uS,←uT,←uU,←S9,←Ta,←Tc,←Td] at Jb;rw[←hn0,←hm0,←hn1,←hm1,←hn2,←hm2,←rH,←S9,←uS,←Ta,←uT,←Tc,←uU,←Td]
 obtain ⟨W,hW⟩:∃ W,W=(w.alloc (.cells #[.slice A0 n0 c0,.slice A1 n1 c1,.slice A2 n2 c2,.slice A3 n3 c3,.slice A4 n4 c4,.slice A5 n5 c5,.slice A6 n6 c6] 30)).alloc (.cells #[.slice B0 m0 d0,.slice B1 m1 d1,.slice B2 m2 d2,.slice B3 m3 d3,.slice B4 m4 d4,.slice B5 m5 d5,.slice B6 m6 d6] 30):=⟨_,rfl⟩
 have hb0:Below w.heap.size w W:=by rw [hW];exact ((Below.refl _ _).alloc (Nat.le_refl _) _).alloc (by simp) _
 have e0:aC W w.heap.size 30 #[.slice A0 n0 c0,.slice A1 n1 c1,.slice A2 n2 c2,.slice A3 n3 c3,.slice A4 n4 c4,.slice A5 n5 c5,.slice A6 n6 c6]:=by rw [hW];exact (aC.new _ _ _).alloc _
 have e1:aC W (w.heap.size+1) 30 #[.slice B0 m0 d0,.slice B1 m1 d1,.slice B2 m2 d2,.slice B3 m3 d3,.slice B4 m4 d4,.slice B5 m5 d5,.slice B6 m6 d6]:=by rw [hW];exact aC.aZ _ _ (by simp)
 have sF:=Lh e0;have rX:=Lh e1;have HB0:=Lh hb0;have AZ:=Lh hn0;have RH:=Lh hm0;have tO:=Lh hn1;have Lg:=Lh hm1;have nE:=Lh hn2;have G9:=Lh hm2;have RA0:=Lh a0;have RB0:=Lh b0;have V7:=Lh a1;have V8:=Lh b1;have RA2:=Lh a2;have RB2:=Lh b2
 have aX:Hid (∀ w':World,Below W.heap.size W w'→w'.cell? ⟨w.heap.size,0,none⟩=some (.slice A0 n0 c0)∧w'.cell? ⟨w.heap.size,1,none⟩=some (.slice A1 n1 c1)∧w'.cell? ⟨w.heap.size,2,none⟩=some (.slice A2 n2 c2)∧w'.cell? ⟨w.heap.size,3,none⟩=some (.slice A3 n3 c3)∧w'.cell? ⟨w.heap.size,4,none⟩=some (.slice A4 n4 c4)∧w'.cell? ⟨w.heap.size,5,none⟩=some (.slice A5 n5 c5)∧w'.cell? ⟨w.heap.size,6,none⟩=some (.slice A6 n6 c6)∧w'.cell? ⟨w.heap.size+1,0,none⟩=some (.slice B0 m0 d0)∧w'.cell? ⟨w.heap.size+1,1,none⟩=some (.slice B1 m1 d1)∧w'.cell? ⟨w.heap.size+1,2,none⟩=some (.slice B2 m2 d2)∧w'.cell? ⟨w.heap.size+1,3,none⟩=some (.slice B3 m3 d3)∧w'.cell? ⟨w.heap.size+1,4,none⟩=some (.slice B4 m4 d4)∧w'.cell? ⟨w.heap.size+1,5,none⟩=some (.slice B5 m5 d5)∧w'.cell? ⟨w.heap.size+1,6,none⟩=some (.slice B6 m6 d6)):=Lh (fun w' hb=>by
  have g0:=e0.below hb e0.lt;have g1:=e1.below hb e1.lt;refine ⟨?_,?_,?_,?_,?_,?_,?_,?_,?_,?_,?_,?_,?_,?_⟩ <;> first | exact (g0.cell _).trans rfl | exact (g1.cell _).trans rfl)
 have hWs:=hb0.size;clear e0 e1 hb0 a0 a1 a2 a3 a4 a5 a6 b0 b1 b2 b3 b4 b5 b6 hn0 hn1 hn2 hm0 hm1 hm2 rH uS uT uU S9 Ta Tc Td;cases q0:((n0:Int) != (m0:Int)) with
 | true=>
  have HR2:Hid (R=false):=Lh (by rw [hR];exact decide_eq_false fun e=>by have h1:=AZ.out;have h2:=RH.out;rw[e.1] at h1;simp at q0;omega);clear hR;go_enter Tryz.func14,Tryz.ntmps14;go_wp2_with fail
  go_quiet (fail)
  all_goals (try go_wp2_with fail)
  all_goals go_ret
  all_goals exact ⟨aj HR2.out.symm,(by rw [←hW];first | exact HB0.out | exact HB0.out.drew | exact ay HB0.out _)⟩
 | false=>
 cases q1:((n1:Int) != (m1:Int)) with
 | true=>
  have HR2:Hid (R=false):=Lh (by rw [hR];exact decide_eq_false fun e=>by have h1:=tO.out;have h2:=Lg.out;rw[e.2.1] at h1;simp at q1;omega);clear hR;go_enter Tryz.func14,Tryz.ntmps14;go_wp2_with fail
  go_quiet (fail)
  all_goals (try go_wp2_with fail)
  all_goals go_ret
  all_goals exact ⟨aj HR2.out.symm,(by rw [←hW];first | exact HB0.out | exact HB0.out.drew | exact ay HB0.out _)⟩
 | false=>
 cases q2:((n2:Int) != (m2:Int)) with
 | true=>
  have HR2:Hid (R=false):=Lh (by rw [hR];exact decide_eq_false fun e=>by have h1:=nE.out;have h2:=G9.out;rw[e.2.2.1] at h1;simp at q2;omega);clear hR;go_enter Tryz.func14,Tryz.ntmps14;go_wp2_with fail
  go_quiet (fail)
  all_goals (try go_wp2_with fail)
  all_goals go_ret
  all_goals exact ⟨aj HR2.out.symm,(by rw [←hW];first | exact HB0.out | exact HB0.out.drew | exact ay HB0.out _)⟩
 | false=>
 have Xu:Hid (R=decide (l0=k0∧l1=k1∧l2=k2∧(l3=k3∧l5=k5∧l4=k4∧l6=k6))):=Lh (by
  rw[hR]
  congr 1
  apply propext;constructor
  ·rintro ⟨h0,h1,h2,h3,h4,h5,h6⟩;exact ⟨h0,h1,h2,h3,h5,h4,h6⟩
  ·rintro ⟨h0,h1,h2,h3,h5,h4,h6⟩;exact ⟨h0,h1,h2,h3,h4,h5,h6⟩)
 clear hR;obtain rfl:n0=m0:=by have:(n0:Int)=m0:=(by simpa using q0);omega
 obtain rfl:n1=m1:=by have:(n1:Int)=m1:=(by simpa using q1);omega
 obtain rfl:n2=m2:=by have:(n2:Int)=m2:=(by simpa using q2);omega
 cases q3:decide (l3=k3∧l5=k5∧l4=k4∧l6=k6) with
 | false=>
  have HR2:Hid (R=false):=Lh (by rw [Xu.out];exact decide_eq_false fun e=>by simp [e.2.2.2] at q3);rw[q3] at Jb;clear Xu q3;go_enter Tryz.func14,Tryz.ntmps14;go_wp2_with fail
  try rw [←hW]
  clear hW
  go_region_held_law (fun w':World=>w'.cell? ⟨w.heap.size,0,none⟩=some (.slice A0 n0 c0)∧w'.cell? ⟨w.heap.size,1,none⟩=some (.slice A1 n1 c1)∧w'.cell? ⟨w.heap.size,2,none⟩=some (.slice A2 n2 c2)∧w'.cell? ⟨w.heap.size,3,none⟩=some (.slice A3 n3 c3)∧w'.cell? ⟨w.heap.size,4,none⟩=some (.slice A4 n4 c4)∧w'.cell? ⟨w.heap.size,5,none⟩=some (.slice A5 n5 c5)∧w'.cell? ⟨w.heap.size,6,none⟩=some (.slice A6 n6 c6)∧w'.cell? ⟨w.heap.size+1,0,none⟩=some (.slice B0 n0 d0)∧w'.cell? ⟨w.heap.size+1,1,none⟩=some (.slice B1 n1 d1)∧w'.cell? ⟨w.heap.size+1,2,none⟩=some (.slice B2 n2 d2)∧w'.cell? ⟨w.heap.size+1,3,none⟩=some (.slice B3 m3 d3)∧w'.cell? ⟨w.heap.size+1,4,none⟩=some (.slice B4 m4 d4)∧w'.cell? ⟨w.heap.size+1,5,none⟩=some (.slice B5 m5 d5)∧w'.cell? ⟨w.heap.size+1,6,none⟩=some (.slice B6 m6 d6)) (first | exact aX.out _ (Below.refl W.heap.size W).drew | go_keep) (first | (go_at_call 39;refine (Jb.out _ (HB0.out.trans (yQ.out.mono HB0.out.size))).mono ?_;rintro e w7 ⟨rfl,xI⟩;have KC:=yQ.out.trans (xI.mono yQ.out.size);obtain ⟨r0,r1,r2,r3,r4,r5,r6,r7,r8,r9,Kn,Ko,Kq,Kr⟩:=aX.out w7 KC;have LZ:=Lh KC;clear xI KC) | (go_at_call 40;refine (wD _ _ _ _ _ _ _ _ _ _ _ _ _ _ _ _ _ _ _ _ _ _).mono ?_;rintro e w6 ⟨rfl,hb6⟩;have hc6:=rY.out.trans (hb6.mono rY.out.size);obtain ⟨r0,r1,r2,r3,r4,r5,r6,r7,r8,r9,Kn,Ko,Kq,Kr⟩:=aX.out w6 hc6;have yQ:=Lh hc6;clear hb6 hc6) | (go_at_call 40;refine (wD _ _ _ _ _ _ _ _ _ _ _ _ _ _ _ _ _ _ _ _ _ _).mono ?_;rintro e w5 ⟨rfl,hb5⟩;have Sl:=Below.trans (Below.refl W.heap.size W).drew hb5;obtain ⟨r0,r1,r2,r3,r4,r5,r6,r7,r8,r9,Kn,Ko,Kq,Kr⟩:=aX.out w5 Sl;have rY:=Lh Sl;clear hb5 Sl))
  all_goals (try go_wp2_with fail)
  all_goals go_ret
  all_goals exact ⟨aj HR2.out.symm,HB0.out.trans (LZ.out.mono HB0.out.size)⟩
 | true=>
 have HR:Hid (R=decide (l0=k0∧l1=k1∧l2=k2)):=Lh (by rw [Xu.out];exact decide_eq_decide.mpr ⟨fun h=>⟨h.1,h.2.1,h.2.2.1⟩,fun h=>⟨h.1,h.2.1,h.2.2,of_decide_eq_true q3⟩⟩);rw[q3] at Jb;clear Xu q3 q0 q1 q2;go_enter Tryz.func14,Tryz.ntmps14;go_wp2_with fail
 try rw [←hW]
 clear hW
 go_region_held_law (fun w':World=>w'.cell? ⟨w.heap.size,0,none⟩=some (.slice A0 n0 c0)∧w'.cell? ⟨w.heap.size,1,none⟩=some (.slice A1 n1 c1)∧w'.cell? ⟨w.heap.size,2,none⟩=some (.slice A2 n2 c2)∧w'.cell? ⟨w.heap.size,3,none⟩=some (.slice A3 n3 c3)∧w'.cell? ⟨w.heap.size,4,none⟩=some (.slice A4 n4 c4)∧w'.cell? ⟨w.heap.size,5,none⟩=some (.slice A5 n5 c5)∧w'.cell? ⟨w.heap.size,6,none⟩=some (.slice A6 n6 c6)∧w'.cell? ⟨w.heap.size+1,0,none⟩=some (.slice B0 n0 d0)∧w'.cell? ⟨w.heap.size+1,1,none⟩=some (.slice B1 n1 d1)∧w'.cell? ⟨w.heap.size+1,2,none⟩=some (.slice B2 n2 d2)∧w'.cell? ⟨w.heap.size+1,3,none⟩=some (.slice B3 m3 d3)∧w'.cell? ⟨w.heap.size+1,4,none⟩=some (.slice B4 m4 d4)∧w'.cell? ⟨w.heap.size+1,5,none⟩=some (.slice B5 m5 d5)∧w'.cell? ⟨w.heap.size+1,6,none⟩=some (.slice B6 m6 d6)) (first | exact aX.out _ (Below.refl W.heap.size W).drew | go_keep) (first | (go_at_call 39;refine (Jb.out _ (HB0.out.trans (yQ.out.mono HB0.out.size))).mono ?_;rintro e w7 ⟨rfl,xI⟩;have KC:=yQ.out.trans (xI.mono yQ.out.size);obtain ⟨r0,r1,r2,r3,r4,r5,r6,r7,r8,r9,Kn,Ko,Kq,Kr⟩:=aX.out w7 KC;have LZ:=Lh KC;clear xI KC) | (go_at_call 40;refine (wD _ _ _ _ _ _ _ _ _ _ _ _ _ _ _ _ _ _ _ _ _ _).mono ?_;rintro e w6 ⟨rfl,hb6⟩;have hc6:=rY.out.trans (hb6.mono rY.out.size);obtain ⟨r0,r1,r2,r3,r4,r5,r6,r7,r8,r9,Kn,Ko,Kq,Kr⟩:=aX.out w6 hc6;have yQ:=Lh hc6;clear hb6 hc6) | (go_at_call 40;refine (wD _ _ _ _ _ _ _ _ _ _ _ _ _ _ _ _ _ _ _ _ _ _).mono ?_;rintro e w5 ⟨rfl,hb5⟩;have Sl:=Below.trans (Below.refl W.heap.size W).drew hb5;obtain ⟨r0,r1,r2,r3,r4,r5,r6,r7,r8,r9,Kn,Ko,Kq,Kr⟩:=aX.out w5 Sl;have rY:=Lh Sl;clear hb5 Sl))
 all_goals clear Jb
 all_goals (try go_wp2_with fail)
 go_loopg [5] n0 (fun gk v5 wr=>∃ i:Nat,v5 = .int .i64 i∧i+gk=n0∧Hid (Below W.heap.size W wr)∧Hid (∀ j,j < i→l0[j]?=k0[j]?))
 case atStart=>exact ⟨0,rfl,by omega,Lh LZ.out,Lh (fun j hj=>absurd hj (Nat.not_lt_zero j))⟩
 case round=>
  obtain ⟨i,rfl,hi,Hb0,dQ⟩:=hrel;have Bl:=Lh (HB0.out.trans (Hb0.out.mono HB0.out.size));have g0:=sF.out.below Hb0.out sF.out.lt;have g1:=rX.out.below Hb0.out rX.out.lt;have g6:=g0.cell 0;have h6:=g1.cell 0;simp at g6 h6;clear g0 g1
  by_cases hlt:i < n0
  ·obtain ⟨x,hx⟩:∃ x,l0[i]?=some x:=⟨_,List.getElem?_eq_getElem (by have:=AZ.out;omega)⟩
   obtain ⟨y,hy⟩:∃ y,k0[i]?=some y:=⟨_,List.getElem?_eq_getElem (by have:=RH.out;omega)⟩
   have Hx:=Lh hx;have Hy:=Lh hy;obtain ⟨xn,xo,xc,xr,⟨x1,x2,x3,x4,x5,Xv⟩,⟨x6,x7,x8,x9,x10,Xw⟩⟩:=x;obtain ⟨yn,yo,yc,yr,⟨y1,y2,y3,y4,y5,Xx⟩,⟨y6,y7,y8,y9,FM,Xy⟩⟩:=y;obtain ⟨bk,ok,Fw,rfl,gV,oL,hck⟩:=RA0.out.at_ i _ hx;have mK:=aV.keep (fun b hb1=>(⟨Nat.lt_of_lt_of_le hb1 Bl.out.size,fun i=>Bl.out.cell (p:=⟨b,i,none⟩) hb1⟩:Old wr b∧∀ i,wr.cell? ⟨b,i,none⟩=w.cell? ⟨b,i,none⟩)) oL;obtain ⟨kn,kb,rfl,-,kr1,kr2⟩:=oL;rw[aB.eq_def] at kr1 kr2;obtain ⟨kA,ki,rfl,-,-,-⟩:=kr1;obtain ⟨kB,kj,rfl,-,-,-⟩:=kr2;have k0:=(Bl.out.cell (p:=⟨bk,_,none⟩) gV).trans (hck 0 _ rfl)
   have k1:=(Bl.out.cell (p:=⟨bk,_,none⟩) gV).trans (hck 1 _ rfl);have k2:=(Bl.out.cell (p:=⟨bk,_,none⟩) gV).trans (hck 2 _ rfl);have k3:=(Bl.out.cell (p:=⟨bk,_,none⟩) gV).trans (hck 3 _ rfl);have k4:=(Bl.out.cell (p:=⟨bk,_,none⟩) gV).trans (hck 4 _ rfl);have k5:=(Bl.out.cell (p:=⟨bk,_,none⟩) gV).trans (hck 5 _ rfl);have k6:=(Bl.out.cell (p:=⟨bk,_,none⟩) gV).trans (hck 6 _ rfl);have k7:=(Bl.out.cell (p:=⟨bk,_,none⟩) gV).trans (hck 7 _ rfl);have k8:=(Bl.out.cell (p:=⟨bk,_,none⟩) gV).trans (hck 8 _ rfl);have k9:=(Bl.out.cell (p:=⟨bk,_,none⟩) gV).trans (hck 9 _ rfl)
   have k10:=(Bl.out.cell (p:=⟨bk,_,none⟩) gV).trans (hck 10 _ rfl);have k11:=(Bl.out.cell (p:=⟨bk,_,none⟩) gV).trans (hck 11 _ rfl);have k12:=(Bl.out.cell (p:=⟨bk,_,none⟩) gV).trans (hck 12 _ rfl);have k13:=(Bl.out.cell (p:=⟨bk,_,none⟩) gV).trans (hck 13 _ rfl);have k14:=(Bl.out.cell (p:=⟨bk,_,none⟩) gV).trans (hck 14 _ rfl);have k15:=(Bl.out.cell (p:=⟨bk,_,none⟩) gV).trans (hck 15 _ rfl);simp only[Nat.add_zero,aT,bB] at k0 k1 k2 k3 k4 k5 k6 k7 k8 k9 k10 k11 k12 k13 k14 k15 mK;obtain ⟨bl,ol,Wz,rfl,kR,hrl,hcl⟩:=RB0.out.at_ i _ hy
   have ru:=aV.keep (fun b hb1=>(⟨Nat.lt_of_lt_of_le hb1 Bl.out.size,fun i=>Bl.out.cell (p:=⟨b,i,none⟩) hb1⟩:Old wr b∧∀ i,wr.cell? ⟨b,i,none⟩=w.cell? ⟨b,i,none⟩)) hrl;obtain ⟨ln,lb,rfl,-,lr1,lr2⟩:=hrl;rw[aB.eq_def] at lr1 lr2;obtain ⟨lA,li,rfl,-,-,-⟩:=lr1;obtain ⟨lB,lj,rfl,-,-,-⟩:=lr2;have l0:=(Bl.out.cell (p:=⟨bl,_,none⟩) kR).trans (hcl 0 _ rfl);have l1:=(Bl.out.cell (p:=⟨bl,_,none⟩) kR).trans (hcl 1 _ rfl);have l2:=(Bl.out.cell (p:=⟨bl,_,none⟩) kR).trans (hcl 2 _ rfl);have l3:=(Bl.out.cell (p:=⟨bl,_,none⟩) kR).trans (hcl 3 _ rfl)
   have l4:=(Bl.out.cell (p:=⟨bl,_,none⟩) kR).trans (hcl 4 _ rfl);have l5:=(Bl.out.cell (p:=⟨bl,_,none⟩) kR).trans (hcl 5 _ rfl);have l6:=(Bl.out.cell (p:=⟨bl,_,none⟩) kR).trans (hcl 6 _ rfl);have l7:=(Bl.out.cell (p:=⟨bl,_,none⟩) kR).trans (hcl 7 _ rfl);have l8:=(Bl.out.cell (p:=⟨bl,_,none⟩) kR).trans (hcl 8 _ rfl);have l9:=(Bl.out.cell (p:=⟨bl,_,none⟩) kR).trans (hcl 9 _ rfl);have l10:=(Bl.out.cell (p:=⟨bl,_,none⟩) kR).trans (hcl 10 _ rfl);have Ve:=(Bl.out.cell (p:=⟨bl,_,none⟩) kR).trans (hcl 11 _ rfl);have Vf:=(Bl.out.cell (p:=⟨bl,_,none⟩) kR).trans (hcl 12 _ rfl)
   have Vg:=(Bl.out.cell (p:=⟨bl,_,none⟩) kR).trans (hcl 13 _ rfl);have Vh:=(Bl.out.cell (p:=⟨bl,_,none⟩) kR).trans (hcl 14 _ rfl);have Vi:=(Bl.out.cell (p:=⟨bl,_,none⟩) kR).trans (hcl 15 _ rfl);simp only[Nat.add_zero,aT,bB] at l0 l1 l2 l3 l4 l5 l6 l7 l8 l9 l10 Ve Vf Vg Vh Vi ru
   have aH:=Lh (Dr (⟨xn,xo,xc,xr,.mk x1 x2 x3 x4 x5 Xv,.mk x6 x7 x8 x9 x10 Xw⟩:Sx.Course) (⟨yn,yo,yc,yr,.mk y1 y2 y3 y4 y5 Xx,.mk y6 y7 y8 y9 FM Xy⟩:Sx.Course) wr.drew _ _ (aV.keep (w:=wr) (w':=wr.drew) (S:=Old wr) (S':=Old wr.drew) (fun b hb1=>⟨hb1,fun _=>rfl⟩) mK) (aV.keep (w:=wr) (w':=wr.drew) (S:=Old wr) (S':=Old wr.drew) (fun b hb1=>⟨hb1,fun _=>rfl⟩) ru));simp only[List.cons_append,List.nil_append] at aH;clear mK ru hck hcl hx hy
   cases hq:Sx.nD ⟨xn,xo,xc,xr,.mk x1 x2 x3 x4 x5 Xv,.mk x6 x7 x8 x9 x10 Xw⟩ ⟨yn,yo,yc,yr,.mk y1 y2 y3 y4 y5 Xx,.mk y6 y7 y8 y9 FM Xy⟩ with
   | false=>
    rw[hq] at aH;have HR2:Hid (R=false):=Lh (by
     rw[HR.out];refine decide_eq_false fun e0=>?_;have hxy:(⟨xn,xo,xc,xr,.mk x1 x2 x3 x4 x5 Xv,.mk x6 x7 x8 x9 x10 Xw⟩:Sx.Course)≠⟨yn,yo,yc,yr,.mk y1 y2 y3 y4 y5 Xx,.mk y6 y7 y8 y9 FM Xy⟩:=(fun e=>by rw [(Sx.nZ _ _).mpr e] at hq;cases hq)
     have h1:=Hx.out;rw[e0.1,Hy.out] at h1;injection h1 with h1;exact hxy h1.symm)
    clear hq;go_wp2_with fail
    go_region_law (go_simp;go_at_call 41;refine aH.out.mono ?_;rintro e w9 ⟨rfl,Li⟩;have Sm:=Lh Li;clear Li)
    all_goals (try go_wp2_with fail)
    all_goals go_ret
    all_goals exact ⟨aj HR2.out.symm,Bl.out.trans (Below.trans (Below.refl _ _).drew (Sm.out.mono (by have:=Bl.out.size;exact this)))⟩
   | true=>
    rw[hq] at aH;have mW:=Lh (bY dQ.out (by have e:(⟨xn,xo,xc,xr,.mk x1 x2 x3 x4 x5 Xv,.mk x6 x7 x8 x9 x10 Xw⟩:Sx.Course)=⟨yn,yo,yc,yr,.mk y1 y2 y3 y4 y5 Xx,.mk y6 y7 y8 y9 FM Xy⟩:=(Sx.nZ _ _).mp hq;rw[Hx.out,Hy.out,e]));clear hq;go_wp2_with fail
    go_region_law (go_simp;go_at_call 41;refine aH.out.mono ?_;rintro e w9 ⟨rfl,Li⟩;have Sm:=Lh Li;clear Li)
    all_goals (try go_wp2_with fail)
    all_goals go_roundg (gk - 1)
    all_goals first
     | omega
     | exact ⟨i+1,by go_num,by omega,Lh (Hb0.out.trans (Below.trans (Below.refl _ _).drew (Sm.out.mono (by have:=Hb0.out.size;exact this)))),Lh mW.out⟩
  ·obtain rfl:i=n0:=by omega
   have hall:l0=k0:=dG dQ.out AZ.out RH.out;have sO:=HR.out;rw[hall] at sO;simp only[true_and] at sO;clear HR;have HR:=Lh sO;clear sO hall dQ hi hlt;go_wp2_with fail
   go_loopg [6] n1 (fun gk v6 wr=>∃ i:Nat,v6 = .int .i64 i∧i+gk=n1∧Hid (Below W.heap.size W wr)∧Hid (∀ j,j < i→l1[j]?=k1[j]?))
   case atStart=>exact ⟨0,rfl,by omega,Lh Hb0.out,Lh (fun j hj=>absurd hj (Nat.not_lt_zero j))⟩
   case round=>
    obtain ⟨i,rfl,hi,Hb1,dQ⟩:=hrel;have Bl:=Lh (HB0.out.trans (Hb1.out.mono HB0.out.size));have g0:=sF.out.below Hb1.out sF.out.lt;have g1:=rX.out.below Hb1.out rX.out.lt;have g6:=g0.cell 1;have h6:=g1.cell 1;simp at g6 h6;clear g0 g1
    by_cases hlt:i < n1
    ·obtain ⟨x,hx⟩:∃ x,l1[i]?=some x:=⟨_,List.getElem?_eq_getElem (by have:=tO.out;omega)⟩
     obtain ⟨y,hy⟩:∃ y,k1[i]?=some y:=⟨_,List.getElem?_eq_getElem (by have:=Lg.out;omega)⟩
     have Hx:=Lh hx;have Hy:=Lh hy;obtain ⟨bk,ok,Fw,rfl,gV,oL,hck⟩:=V7.out.at_ i _ hx;obtain rfl:=oL.1;have k0:=(Bl.out.cell (p:=⟨bk,_,none⟩) gV).trans (hck 0 _ rfl);have k1:=(Bl.out.cell (p:=⟨bk,_,none⟩) gV).trans (hck 1 _ rfl);have k2:=(Bl.out.cell (p:=⟨bk,_,none⟩) gV).trans (hck 2 _ rfl);have k3:=(Bl.out.cell (p:=⟨bk,_,none⟩) gV).trans (hck 3 _ rfl);simp only[Nat.add_zero,aT,bB] at k0 k1 k2 k3;obtain ⟨bl,ol,Wz,rfl,kR,hrl,hcl⟩:=V8.out.at_ i _ hy;obtain rfl:=hrl.1;have l0:=(Bl.out.cell (p:=⟨bl,_,none⟩) kR).trans (hcl 0 _ rfl)
     have l1:=(Bl.out.cell (p:=⟨bl,_,none⟩) kR).trans (hcl 1 _ rfl);have l2:=(Bl.out.cell (p:=⟨bl,_,none⟩) kR).trans (hcl 2 _ rfl);have l3:=(Bl.out.cell (p:=⟨bl,_,none⟩) kR).trans (hcl 3 _ rfl);simp only[Nat.add_zero,aT,bB] at l0 l1 l2 l3;have hneq:=Cy x y;unfold qP at hneq;clear hck hcl hx hy;cases hq:decide (x=y) with
     | false=>
      rw[hq] at hneq;have HR2:Hid (R=false):=Lh (by
       rw[HR.out];refine decide_eq_false fun e0=>?_;have hxy:(x:Sx.Pair)≠y:=(fun e=>by simp [e] at hq)
       have h1:=Hx.out;rw[e0.1,Hy.out] at h1;injection h1 with h1;exact hxy h1.symm)
      clear hq;go_wp2_with fail
      go_quiet (fail)
      go_wp2_with fail;go_ret;exact ⟨aj HR2.out.symm,(by first | exact ay (ay Bl.out _) _ | exact ay Bl.out _ | exact Bl.out.drew | exact Bl.out)⟩
     | true=>
      rw[hq] at hneq;have mW:=Lh (bY dQ.out (by have e:(x:Sx.Pair)=y:=(by simpa using hq);rw[Hx.out,Hy.out,e]));clear hq;go_wp2_with fail
      go_quiet (fail)
      go_wp2_with fail
      go_roundg (gk - 1)
      all_goals first
       | omega
       | exact ⟨i+1,by go_num,by omega,Lh (by first | exact ay (ay Hb1.out _) _ | exact ay Hb1.out _ | exact Hb1.out.drew | exact Hb1.out),Lh mW.out⟩
    ·obtain rfl:i=n1:=by omega
     have hall:l1=k1:=dG dQ.out tO.out Lg.out;have sO:=HR.out;rw[hall] at sO;simp only[true_and] at sO;clear HR;have HR:=Lh sO;clear sO hall dQ hi hlt;go_wp2_with fail
     go_loopg [7] n2 (fun gk v7 wr=>∃ i:Nat,v7 = .int .i64 i∧i+gk=n2∧Hid (Below W.heap.size W wr)∧Hid (∀ j,j < i→l2[j]?=k2[j]?))
     case atStart=>exact ⟨0,rfl,by omega,Lh Hb1.out,Lh (fun j hj=>absurd hj (Nat.not_lt_zero j))⟩
     case round=>
      obtain ⟨i,rfl,hi,Hb2,dQ⟩:=hrel;have Bl:=Lh (HB0.out.trans (Hb2.out.mono HB0.out.size));have g0:=sF.out.below Hb2.out sF.out.lt;have g1:=rX.out.below Hb2.out rX.out.lt;have g6:=g0.cell 2;have h6:=g1.cell 2;simp at g6 h6;clear g0 g1
      by_cases hlt:i < n2
      ·obtain ⟨x,hx⟩:∃ x,l2[i]?=some x:=⟨_,List.getElem?_eq_getElem (by have:=nE.out;omega)⟩
       obtain ⟨y,hy⟩:∃ y,k2[i]?=some y:=⟨_,List.getElem?_eq_getElem (by have:=G9.out;omega)⟩
       have Hx:=Lh hx;have Hy:=Lh hy;obtain ⟨bk,ok,Fw,rfl,gV,oL,hck⟩:=RA2.out.at_ i _ hx;have mK:=bS.keep (fun b hb1=>(⟨Nat.lt_of_lt_of_le hb1 Bl.out.size,fun i=>Bl.out.cell (p:=⟨b,i,none⟩) hb1⟩:Old wr b∧∀ i,wr.cell? ⟨b,i,none⟩=w.cell? ⟨b,i,none⟩)) oL;obtain ⟨kA,ki,rfl,-,-⟩:=oL;have k0:=(Bl.out.cell (p:=⟨bk,_,none⟩) gV).trans (hck 0 _ rfl);have k1:=(Bl.out.cell (p:=⟨bk,_,none⟩) gV).trans (hck 1 _ rfl);have k2:=(Bl.out.cell (p:=⟨bk,_,none⟩) gV).trans (hck 2 _ rfl);have k3:=(Bl.out.cell (p:=⟨bk,_,none⟩) gV).trans (hck 3 _ rfl)
       have k4:=(Bl.out.cell (p:=⟨bk,_,none⟩) gV).trans (hck 4 _ rfl);have k5:=(Bl.out.cell (p:=⟨bk,_,none⟩) gV).trans (hck 5 _ rfl);have k6:=(Bl.out.cell (p:=⟨bk,_,none⟩) gV).trans (hck 6 _ rfl);simp only[Nat.add_zero,aT,bB] at k0 k1 k2 k3 k4 k5 k6 mK;obtain ⟨bl,ol,Wz,rfl,kR,hrl,hcl⟩:=RB2.out.at_ i _ hy;have ru:=bS.keep (fun b hb1=>(⟨Nat.lt_of_lt_of_le hb1 Bl.out.size,fun i=>Bl.out.cell (p:=⟨b,i,none⟩) hb1⟩:Old wr b∧∀ i,wr.cell? ⟨b,i,none⟩=w.cell? ⟨b,i,none⟩)) hrl;obtain ⟨lA,li,rfl,-,-⟩:=hrl;have l0:=(Bl.out.cell (p:=⟨bl,_,none⟩) kR).trans (hcl 0 _ rfl)
       have l1:=(Bl.out.cell (p:=⟨bl,_,none⟩) kR).trans (hcl 1 _ rfl);have l2:=(Bl.out.cell (p:=⟨bl,_,none⟩) kR).trans (hcl 2 _ rfl);have l3:=(Bl.out.cell (p:=⟨bl,_,none⟩) kR).trans (hcl 3 _ rfl);have l4:=(Bl.out.cell (p:=⟨bl,_,none⟩) kR).trans (hcl 4 _ rfl);have l5:=(Bl.out.cell (p:=⟨bl,_,none⟩) kR).trans (hcl 5 _ rfl);have l6:=(Bl.out.cell (p:=⟨bl,_,none⟩) kR).trans (hcl 6 _ rfl);simp only[Nat.add_zero,aT,bB] at l0 l1 l2 l3 l4 l5 l6 ru
       have aH:=Lh (Jc (x:Sx.Prog) (y:Sx.Prog) wr.drew _ _ (bS.keep (w:=wr) (w':=wr.drew) (S:=Old wr) (S':=Old wr.drew) (fun b hb1=>⟨hb1,fun _=>rfl⟩) mK) (bS.keep (w:=wr) (w':=wr.drew) (S:=Old wr) (S':=Old wr.drew) (fun b hb1=>⟨hb1,fun _=>rfl⟩) ru));clear mK ru hck hcl hx hy;cases hq:decide (x=y) with
       | false=>
        rw[hq] at aH;have HR2:Hid (R=false):=Lh (by
         rw[HR.out];refine decide_eq_false fun e0=>?_;have hxy:(x:Sx.Prog)≠y:=(fun e=>by simp [e] at hq)
         have h1:=Hx.out;rw[e0,Hy.out] at h1;injection h1 with h1;exact hxy h1.symm)
        clear hq;go_wp2_with fail
        go_region_law (go_simp;go_at_call 42;refine aH.out.mono ?_;rintro e w9 ⟨rfl,Li⟩;have Sm:=Lh Li;clear Li)
        all_goals (try go_wp2_with fail)
        all_goals go_ret
        all_goals exact ⟨aj HR2.out.symm,Bl.out.trans (Below.trans (Below.refl _ _).drew (Sm.out.mono (by have:=Bl.out.size;exact this)))⟩
       | true=>
        rw[hq] at aH;have mW:=Lh (bY dQ.out (by have e:(x:Sx.Prog)=y:=(by simpa using hq);rw[Hx.out,Hy.out,e]));clear hq;go_wp2_with fail
        go_region_law (go_simp;go_at_call 42;refine aH.out.mono ?_;rintro e w9 ⟨rfl,Li⟩;have Sm:=Lh Li;clear Li)
        all_goals (try go_wp2_with fail)
        all_goals go_roundg (gk - 1)
        all_goals first
         | omega
         | exact ⟨i+1,by go_num,by omega,Lh (Hb2.out.trans (Below.trans (Below.refl _ _).drew (Sm.out.mono (by have:=Hb2.out.size;exact this)))),Lh mW.out⟩
      ·obtain rfl:i=n2:=by omega
       have hall:l2=k2:=dG dQ.out nE.out G9.out;have HR2:Hid (R=true):=Lh (by rw [HR.out,hall];simp);clear hall;go_wp2_with fail;go_ret;exact ⟨aj HR2.out.symm,Bl.out⟩
end Go.Proofs.YtjonaidancomgaaGreatDoor
