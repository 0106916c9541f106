/- Parts of the proof, joined into one text: YT, q1p, q1q, YU, YV, YW, q1r. -/
import Derived.Test.YtjonaidancomgaaGreatDoorPSxVal
import Derived.Test.YtjonaidancomgaaGreatDoorPSxAll
import Derived.Test.YtjonaidancomgaaGreatDoorPSxRd
import Derived.Deep.CutRange
import Derived.Test.YtjonaidancomgaaGreatDoorPShelf
import Derived.Test.YtjonaidancomgaaGreatDoorPLxE
import Derived.Test.YtjonaidancomgaaGreatDoorPSxEq
import Derived.Test.YtjonaidancomgaaGreatDoorPLxI
import Derived.Deep.Cut
import Derived.Test.YtjonaidancomgaaGreatDoorPSxOk
import Derived.Deep.RegionHeldLaw
import Derived.BigQuiet
set_option maxHeartbeats 8000000
set_option maxRecDepth 20000
namespace Go.Proofs.YtjonaidancomgaaGreatDoor
open Go.RowKit
theorem Sx.QS (g:Nat) (op co:Int) (nm:List UInt8) (n d:Int) (ks:List Sx.Rule):Sx.cnt (g+1) (.mk op co nm n d ks)=if 300 < ks.length then 300 else Sx.rM (Sx.cnt g) 1 ks:=rfl
theorem Sx.ED (op co:Int) (nm:List UInt8) (n d:Int) (ks:List Sx.Rule):Sx.iQ (.mk op co nm n d ks)=(decide (Sx.cnt 41 (.mk op co nm n d ks) < 250) && decide (nm.length≤100)):=rfl
def NU (n:Int) (w:World) (e:Ending) (w':World):Prop:=e = .returned (.int .i64 n)∧Below w.heap.size w w'
theorem AY {a b:Int} (h:a=b):Ending.returned (.int .i64 a) = .returned (.int .i64 b):=by rw [h]
theorem Kv:∀ (g:Nat),g≤41→∀ (d:Int),d=41 - (g:Int)→∀ (r:Sx.Rule) (w:World) (ca:List Value),aB w (Old w) r ca→
  Calls Tryz.prog 47 #[.agg ca.toArray,.int .i64 d] w (NU (Sx.cnt g r) w)
 | 0,_,d,hd,r,w,ca,ha=>by
  obtain rfl:d=41:=by omega
  obtain ⟨i0,i1,s2,i3,i4,A5,n5,c5,rfl⟩:=bG ha;rw[show Sx.cnt 0 r=300 from rfl];clear ha hd;go_enter Tryz.func47,Tryz.ntmps47;go_wp2_with fail;go_ret;exact ⟨rfl,(Below.refl _ _).alloc (Nat.le_refl _) _⟩
 | g+1,hg,d,hd,.mk op co nm n x ks,w,ca,ha=>by
  have BG:=Lh (Kv g (by omega) (d+1) (by omega));rw[aB] at ha;obtain ⟨A,c,rfl,ha2,LU,MP⟩:=ha;have UF:=Lh MP;obtain ⟨R,hR⟩:∃ R,R=Sx.cnt (g+1) (.mk op co nm n x ks):=⟨_,rfl⟩
  rw[←hR];rw[Sx.QS] at hR;obtain ⟨m,hm⟩:∃ m,m=ks.length:=⟨_,rfl⟩
  rw[←hm] at LU hR ⊢;have Hm:=Lh hm;have hd0:¬ 40 < d:=by omega
  have hd1:0≤d:=by omega
  obtain ⟨W,hW⟩:∃ W,W=w.alloc (.cells #[.int .i64 op,.int .i64 co,.string (Lx.bs nm),.int .i64 n,.int .i64 x,.slice A m c] 38):=⟨_,rfl⟩
  have hb0:Below w.heap.size w W:=by rw [hW];exact (Below.refl _ _).alloc (Nat.le_refl _) _
  have e0:aC W w.heap.size 38 #[.int .i64 op,.int .i64 co,.string (Lx.bs nm),.int .i64 n,.int .i64 x,.slice A m c]:=by rw [hW];exact aC.new _ _ _
  have sF:=Lh e0;have HB0:=Lh hb0;have hdw:IntKind.i64.wrap (d+1)=d+1:=IntWalk.i64_in _ (by omega);have HD:=Lh hd;unfold aT bB;clear MP hm e0 hb0 hd
  by_cases hk:300 < m
  ·have HR:Hid (R=300):=Lh (by rw [hR,if_pos hk]);clear hR;go_enter Tryz.func47,Tryz.ntmps47;go_wp2_with fail;go_ret;exact ⟨AY (by rw [HR.out];rfl),by rw [←hW];exact HB0.out⟩
  rw[if_neg hk] at hR;have HR:=Lh hR;clear hR;go_enter Tryz.func47,Tryz.ntmps47;go_wp2_with fail
  try rw [←hW]
  clear hW
  go_loopg [5,6] m (fun gk v5 v6 wr=>∃ i v:Nat,v5 = .int .i64 v∧v6 = .int .i64 i∧i+gk=m∧v≤13000∧Hid (R=Sx.rM (Sx.cnt g) v (ks.drop i))∧Hid (Below W.heap.size W wr))
  case atStart=>exact ⟨0,1,rfl,rfl,by omega,by omega,Lh (by rw [List.drop_zero];exact HR.out),Lh (Below.refl _ _)⟩
  case round=>
   obtain ⟨i,v,rfl,rfl,hi,hv,HL,Hb⟩:=hrel;have Bl:=Lh (HB0.out.trans (Hb.out.mono HB0.out.size));have g0:=sF.out.below Hb.out sF.out.lt;have g5:=g0.cell 5;simp at g5;have hWs:=HB0.out.size;clear g0
   by_cases hlt:i < m
   ·by_cases hv3:v < 300
    ·obtain ⟨y,hy⟩:∃ y,ks[i]?=some y:=⟨_,List.getElem?_eq_getElem (by have:=Hm.out;omega)⟩
     have HL2:Hid (R=Sx.rM (Sx.cnt g) (v+Sx.cnt g y) (ks.drop (i+1))):=Lh (by
      rw[HL.out,List.drop_eq_getElem_cons (by have:=Hm.out;omega)];rw[List.getElem?_eq_getElem (by have:=Hm.out;omega)] at hy;injection hy with hy;rw[Sx.rM,if_pos hv3,hy])
     obtain ⟨bk,ok,Fw,rfl,gV,oL,hck⟩:=UF.out.get i y hy;have mK:=oL.old Bl.out;obtain ⟨i0,i1,s2,i3,i4,A5,n5,c5,rfl⟩:=bG oL;have k0:=(Bl.out.cell (p:=⟨bk,_,none⟩) gV).trans (hck 0 _ rfl);have k1:=(Bl.out.cell (p:=⟨bk,_,none⟩) gV).trans (hck 1 _ rfl);have k2:=(Bl.out.cell (p:=⟨bk,_,none⟩) gV).trans (hck 2 _ rfl);have k3:=(Bl.out.cell (p:=⟨bk,_,none⟩) gV).trans (hck 3 _ rfl);have k4:=(Bl.out.cell (p:=⟨bk,_,none⟩) gV).trans (hck 4 _ rfl);have k5:=(Bl.out.cell (p:=⟨bk,_,none⟩) gV).trans (hck 5 _ rfl);simp only[Nat.zero_add,Nat.add_zero] at k0 k1 k2 k3 k4 k5
     obtain ⟨q,hq⟩:∃ q,q=Sx.cnt g y:=⟨_,rfl⟩
     have W9:q≤12600:=by rw [hq];exact Nat.le_trans (Sx.EF g y) (by omega)
     have aH:=Lh (BG.out y wr _ mK);rw[←hq] at aH HL2;clear mK oL hck hy hq;go_wp2_with fail;refine aH.out.mono ?_;rintro e w5 ⟨rfl,hb5⟩;have Hb5:=Lh hb5;clear hb5;go_wp2_with fail
     go_roundg (gk - 1)
     all_goals first
      | omega
      | exact ⟨i+1,v+q,by go_num,by go_num,by omega,by omega,HL2,Lh (Hb.out.trans (Hb5.out.mono Hb.out.size))⟩
    ·have HR2:Hid (R=v):=Lh (by
      rw[HL.out,List.drop_eq_getElem_cons (by have:=Hm.out;omega),Sx.rM,if_neg hv3])
     go_wp2_with fail;go_ret;exact ⟨AY (by rw [HR2.out]),Bl.out⟩
   ·obtain rfl:i=m:=by omega
    have HR2:Hid (R=v):=Lh (by rw [HL.out,List.drop_eq_nil_of_le (by have:=Hm.out;omega),Sx.rM]);go_wp2_with fail;go_ret;exact ⟨AY (by rw [HR2.out]),Bl.out⟩
theorem pY (r:Sx.Rule) (w:World) (ca:List Value) (ha:aB w (Old w) r ca):Calls Tryz.prog 19 #[.agg ca.toArray] w (ak (Sx.iQ r) w):=by
 obtain ⟨R,hR⟩:∃ R,R=Sx.iQ r:=⟨_,rfl⟩
 rw[←hR];obtain ⟨q,hq⟩:∃ q,q=Sx.cnt 41 r:=⟨_,rfl⟩
 have W9:q≤12600:=by rw [hq];exact Nat.le_trans (Sx.EF 41 r) (by omega)
 obtain ⟨W,hW⟩:∃ W,W=w.alloc (.cells ca.toArray 38):=⟨_,rfl⟩
 have hb0:Below w.heap.size w W:=by rw [hW];exact (Below.refl _ _).alloc (Nat.le_refl _) _
 have e0:aC W w.heap.size 38 ca.toArray:=by rw [hW];exact aC.new _ _ _
 have aH:=Lh (Kv 41 (Nat.le_refl _) 0 (by omega) r W _ (ha.old hb0));obtain ⟨op,co,nm,n,x,ks⟩:=r;rw[aB] at ha;obtain ⟨A,c,rfl,ha2,LU,-⟩:=ha;rw[Sx.ED] at hR;rw[←hq] at hR aH;obtain ⟨m,hm⟩:∃ m,m=ks.length:=⟨_,rfl⟩
 obtain ⟨l,hl⟩:∃ l,l=nm.length:=⟨_,rfl⟩
 have hls:(Lx.bs nm).size=l:=by rw [hl];exact Lx.jc nm
 rw[←hm] at LU hW e0 aH ⊢;rw[←hl] at hR ha2;unfold aT bB at hW e0 aH;unfold aT bB;have Hls:=Lh hls;have sF:=Lh e0;have HB0:=Lh hb0;have Xa:=Lh hR;have hWs:=hb0.size;obtain ⟨c0,c1,c2,c3,c4,c5,cz⟩:=aQ e0;clear hR hq hm hl hls hb0 e0
 by_cases h1:q < 250
 ·by_cases h2:l≤100
  ·have HR:Hid (R=true):=Lh (by rw [Xa.out,decide_eq_true h1,decide_eq_true h2];rfl);go_enter Tryz.func19,Tryz.ntmps19;go_upto_region 1 with fail;rw[←hW];clear hW;go_wp2_with fail;refine aH.out.mono ?_;rintro e w5 ⟨rfl,hb5⟩;have Hb5:=Lh hb5;obtain ⟨d0,d1,d2,d3,d4,d5,dz⟩:=aQ (sF.out.below hb5 cz);have hls:=Hls.out;clear hb5;go_wp2_with fail;go_ret;exact ⟨aj (by rw [HR.out];exact decide_eq_true (by omega)),HB0.out.trans (Hb5.out.mono hWs)⟩
  ·have HR:Hid (R=false):=Lh (by rw [Xa.out,decide_eq_false h2];simp);go_enter Tryz.func19,Tryz.ntmps19;go_upto_region 1 with fail;rw[←hW];clear hW;go_wp2_with fail;refine aH.out.mono ?_;rintro e w5 ⟨rfl,hb5⟩;have Hb5:=Lh hb5;obtain ⟨d0,d1,d2,d3,d4,d5,dz⟩:=aQ (sF.out.below hb5 cz);have hls:=Hls.out;clear hb5;go_wp2_with fail;go_ret;exact ⟨aj (by rw [HR.out];exact decide_eq_false (by omega)),HB0.out.trans (Hb5.out.mono hWs)⟩
 ·have HR:Hid (R=false):=Lh (by rw [Xa.out,decide_eq_false h1];rfl);go_enter Tryz.func19,Tryz.ntmps19;go_upto_region 1 with fail;rw[←hW];clear hW;go_wp2_with fail;refine aH.out.mono ?_;rintro e w5 ⟨rfl,hb5⟩;have Hb5:=Lh hb5;clear hb5;go_wp2_with fail;go_ret;exact ⟨aj HR.out.symm,HB0.out.trans (Hb5.out.mono hWs)⟩
theorem Sx.qQ {c:Sx.dh} {i:Nat} {x:Sx.Course} (h:c.courses[i]?=some x) (hx:Sx.fP x=false):Sx.few c=false:=by
 unfold Sx.few;rw[jf h hx];simp
theorem Sx.uV {c:Sx.dh} {i:Nat} {x:Sx.Prog} (h:c.aS[i]?=some x) (hx:Sx.iD x=false):Sx.few c=false:=by
 unfold Sx.few;rw[jf h hx];simp
theorem Sx.NV {c:Sx.dh} (h:Sx.rO c=true) (h1:∀ (j:Nat) x,j < c.courses.length→c.courses[j]?=some x→Sx.fP x=true) (h2:∀ (j:Nat) x,j < c.aS.length→c.aS[j]?=some x→Sx.iD x=true):Sx.few c=true:=by
 unfold Sx.few;rw[h,fA h1,fA h2];rfl
theorem Sx.nO {c:Sx.dh} (h:Sx.rO c=false):Sx.few c=false:=by
 unfold Sx.few;rw[h];simp
theorem Mv (x:Sx.dh) (w:World) (ca:List Value) (ha:bE w (Old w) x ca):Calls Tryz.prog 18 #[.agg ca.toArray] w (ak (Sx.few x) w):=by
 obtain ⟨R,hR⟩:∃ R,R=Sx.few x:=⟨_,rfl⟩
 rw[←hR];obtain ⟨A0,c0,A1,c1,A2,c2,A3,c3,A4,c4,A5,c5,A6,c6,rfl,r0,r1,r2,r3,r4,r5,r6⟩:=ha;obtain ⟨n0,hn0⟩:∃ n,n=x.courses.length:=⟨_,rfl⟩
 have z0:=r0.len;rw[←hn0] at z0;obtain ⟨n1,hn1⟩:∃ n,n=x.same.length:=⟨_,rfl⟩
 have z1:=r1.len;rw[←hn1] at z1;obtain ⟨n2,hn2⟩:∃ n,n=x.aS.length:=⟨_,rfl⟩
 have z2:=r2.len;rw[←hn2] at z2;obtain ⟨n3,rH⟩:∃ n,n=x.classes.length:=⟨_,rfl⟩
 have z3:=r3.len;rw[←rH] at z3;obtain ⟨n4,uS⟩:∃ n,n=x.bZ.length:=⟨_,rfl⟩
 have z4:=r4.len;rw[←uS] at z4;obtain ⟨n5,uT⟩:∃ n,n=x.aJ.length:=⟨_,rfl⟩
 have z5:=r5.len;rw[←uT] at z5;obtain ⟨n6,uU⟩:∃ n,n=x.clauses.length:=⟨_,rfl⟩
 have z6:=r6.len;rw[←uU] at z6;rw[←hn0,←hn1,←hn2,←rH,←uS,←uT,←uU];have htop:Sx.rO x=(decide (n0≤8) && decide (n1≤8) && decide (n2≤4) && decide (n3+n4+n5+n6≤20)):=by unfold Sx.rO;rw[hn0,hn1,hn2,rH,uS,uT,uU]
 obtain ⟨W,hW⟩:∃ W,W=w.alloc (.cells #[.slice A0 n0 c0,.slice A1 n1 c1,.slice A2 n2 c2,.slice A3 n3 c3,.slice A4 n4 c4,.slice A5 n5 c5,.slice A6 n6 c6] 30):=⟨_,rfl⟩
 have hb0:Below w.heap.size w W:=by rw [hW];exact (Below.refl _ _).alloc (Nat.le_refl _) _
 have e0:aC W w.heap.size 30 #[.slice A0 n0 c0,.slice A1 n1 c1,.slice A2 n2 c2,.slice A3 n3 c3,.slice A4 n4 c4,.slice A5 n5 c5,.slice A6 n6 c6]:=by rw [hW];exact aC.new _ _ _
 have sF:=Lh e0;have HB0:=Lh hb0;have HR:=Lh hR;have HT:=Lh htop;have AZ:=Lh hn0;have nE:=Lh hn2;have R0:=Lh r0;have R2:=Lh r2;have hWs:=hb0.size;obtain ⟨k0,k1,k2,k3,k4,k5,k6,kz⟩:=bJ e0;clear hR htop hn0 hn1 hn2 rH uS uT uU r0 r1 r2 r3 r4 r5 r6 hb0 e0
 by_cases a0:8 < n0
 ·have HF:Hid (R=false):=Lh (by rw [HR.out];refine Sx.nO ?_;rw[HT.out];simp;omega);go_enter Tryz.func18,Tryz.ntmps18;go_upto_region 1 with fail;rw[←hW];clear hW;go_wp2_with fail;go_ret;exact ⟨aj (HF.out.symm),HB0.out⟩
 by_cases a1:8 < n1
 ·have HF:Hid (R=false):=Lh (by rw [HR.out];refine Sx.nO ?_;rw[HT.out];simp;omega);go_enter Tryz.func18,Tryz.ntmps18;go_upto_region 1 with fail;rw[←hW];clear hW;go_wp2_with fail;go_ret;exact ⟨aj (HF.out.symm),HB0.out⟩
 by_cases a2:4 < n2
 ·have HF:Hid (R=false):=Lh (by rw [HR.out];refine Sx.nO ?_;rw[HT.out];simp;omega);go_enter Tryz.func18,Tryz.ntmps18;go_upto_region 1 with fail;rw[←hW];clear hW;go_wp2_with fail;go_ret;exact ⟨aj (HF.out.symm),HB0.out⟩
 by_cases a3:20 < n3+n4+n5+n6
 ·have HF:Hid (R=false):=Lh (by rw [HR.out];refine Sx.nO ?_;rw[HT.out];simp;omega);go_enter Tryz.func18,Tryz.ntmps18;go_upto_region 1 with fail;rw[←hW];clear hW;go_wp2_with fail;go_ret;exact ⟨aj (HF.out.symm),HB0.out⟩
 have HT1:Hid (Sx.rO x=true):=Lh (by rw [HT.out];simp;omega);clear HT;go_enter Tryz.func18,Tryz.ntmps18;go_upto_region 1 with fail;rw[←hW];clear hW;go_wp2_with fail;clear k0 k1 k2 k3 k4 k5 k6
 go_loopg [3] n0 (fun gk v3 wr=>∃ i:Nat,v3 = .int .i64 i∧i+gk=n0∧Hid (∀ (j:Nat) y,j < i→x.courses[j]?=some y→Sx.fP y=true)∧Hid (Below W.heap.size W wr))
 case atStart=>exact ⟨0,rfl,by omega,Lh (fun j y hj=>absurd hj (Nat.not_lt_zero j)),Lh (Below.refl _ _)⟩
 case round=>
  obtain ⟨i,rfl,hi,dQ,Hb⟩:=hrel;have Bl:=Lh (HB0.out.trans (Hb.out.mono HB0.out.size));obtain ⟨k0,k1,k2,k3,k4,k5,k6,kw⟩:=bJ (sF.out.below Hb.out kz)
  by_cases hlt:i < n0
  ·obtain ⟨y,hy⟩:∃ y,x.courses[i]?=some y:=⟨_,List.getElem?_eq_getElem (by have:=AZ.out;omega)⟩
   have Hy:=Lh hy;obtain ⟨be,oe,ce,rfl,cO,hre,hce⟩:=R0.out.at_ i _ hy;obtain ⟨cn,cb,rfl,hnl,hcn,hcb⟩:=hre;have hcn':=hcn.old Bl.out;have Vm:=hcb.old Bl.out;obtain ⟨i0,i1,s2,i3,i4,A7,n7,c7,rfl⟩:=bG hcn;obtain ⟨j0,j1,t2,j3,j4,B7,m7,d7,rfl⟩:=bG hcb;have g4:=(Bl.out.cell (p:=⟨be,_,none⟩) cO).trans (hce 4 _ rfl);have g5:=(Bl.out.cell (p:=⟨be,_,none⟩) cO).trans (hce 5 _ rfl);have g6:=(Bl.out.cell (p:=⟨be,_,none⟩) cO).trans (hce 6 _ rfl);have g7:=(Bl.out.cell (p:=⟨be,_,none⟩) cO).trans (hce 7 _ rfl);have g8:=(Bl.out.cell (p:=⟨be,_,none⟩) cO).trans (hce 8 _ rfl)
   have g9:=(Bl.out.cell (p:=⟨be,_,none⟩) cO).trans (hce 9 _ rfl);have g10:=(Bl.out.cell (p:=⟨be,_,none⟩) cO).trans (hce 10 _ rfl);have g11:=(Bl.out.cell (p:=⟨be,_,none⟩) cO).trans (hce 11 _ rfl);have g12:=(Bl.out.cell (p:=⟨be,_,none⟩) cO).trans (hce 12 _ rfl);have g13:=(Bl.out.cell (p:=⟨be,_,none⟩) cO).trans (hce 13 _ rfl);have g14:=(Bl.out.cell (p:=⟨be,_,none⟩) cO).trans (hce 14 _ rfl);have g15:=(Bl.out.cell (p:=⟨be,_,none⟩) cO).trans (hce 15 _ rfl)
   try simp only [Nat.add_zero] at g4 g5 g6 g7 g8 g9 g10 g11 g12 g13 g14 g15
   have Te:=Lh (pY y.need wr _ hcn');have Ma:=Lh (fun (w5:World) (hb:Below wr.heap.size wr w5)=>pY y.bar w5 _ (Vm.old hb));have hbw:be < wr.heap.size:=Nat.lt_of_lt_of_le cO Bl.out.size;clear hcn hcb hcn' Vm hce hy;cases q1:Sx.iQ y.need with
   | false=>
    have HF:Hid (R=false):=Lh (by rw [HR.out];refine Sx.qQ Hy.out ?_;unfold Sx.fP;rw[q1];rfl);rw[q1] at Te;clear q1;go_wp2_with fail;refine Te.out.mono ?_;rintro e w5 ⟨rfl,hb5⟩;have Hb5:=Lh hb5;clear hb5;go_wp2_with fail;go_ret;exact ⟨aj HF.out.symm,Bl.out.trans (Hb5.out.mono Bl.out.size)⟩
   | true=>
    rw[q1] at Te;have OY:=Lh q1;clear q1;go_wp2_with fail;refine Te.out.mono ?_;rintro e w5 ⟨rfl,hb5⟩;have Hb5:=Lh hb5;obtain ⟨m0,m1,m2,m3,m4,m5,m6,mw⟩:=bJ (sF.out.below (Hb.out.trans (hb5.mono Hb.out.size)) kz);have p10:=(hb5.cell (p:=⟨be,_,none⟩) hbw).trans g10;have p11:=(hb5.cell (p:=⟨be,_,none⟩) hbw).trans g11;have p12:=(hb5.cell (p:=⟨be,_,none⟩) hbw).trans g12;have p13:=(hb5.cell (p:=⟨be,_,none⟩) hbw).trans g13;have p14:=(hb5.cell (p:=⟨be,_,none⟩) hbw).trans g14;have p15:=(hb5.cell (p:=⟨be,_,none⟩) hbw).trans g15;clear hb5;cases q2:Sx.iQ y.bar with
    | false=>
     have HF:Hid (R=false):=Lh (by rw [HR.out];refine Sx.qQ Hy.out ?_;unfold Sx.fP;rw[q2];simp);rw[q2] at Ma;clear q2;go_wp2_with fail;refine (Ma.out _ Hb5.out).mono ?_;rintro e w6 ⟨rfl,hb6⟩;have YX:=Lh hb6;clear hb6;go_wp2_with fail;go_ret;exact ⟨aj HF.out.symm,Bl.out.trans ((Hb5.out.trans (YX.out.mono Hb5.out.size)).mono Bl.out.size)⟩
    | true=>
     rw[q2] at Ma;have OX:=Lh q2;clear q2;go_wp2_with fail;refine (Ma.out _ Hb5.out).mono ?_;rintro e w6 ⟨rfl,hb6⟩;have YX:=Lh hb6;clear hb6;go_wp2_with fail
     go_roundg (gk - 1)
     all_goals first
      | omega
      | exact ⟨i+1,by go_num,by omega,Lh (fun j z hj h1=>by
        rcases Nat.lt_or_ge j i with h3 | h3
        ·exact dQ.out j z h3 h1
        ·obtain rfl:j=i:=by omega
         rw[Hy.out] at h1;injection h1 with h1;rw[←h1];unfold Sx.fP;rw[OY.out,OX.out];rfl),Lh (Hb.out.trans ((Hb5.out.trans (YX.out.mono Hb5.out.size)).mono Hb.out.size))⟩
  ·obtain rfl:i=n0:=by omega
   have HC:Hid (∀ (j:Nat) y,j < x.courses.length→x.courses[j]?=some y→Sx.fP y=true):=Lh (fun j y hj=>dQ.out j y (by have:=AZ.out;omega));have HB1:=Bl;have HWW:=Hb
   rename World=>V
   clear hi dQ;go_wp2_with fail
   go_loopg [4] n2 (fun gk v4 wr=>∃ i:Nat,v4 = .int .i64 i∧i+gk=n2∧Hid (∀ (j:Nat) y,j < i→x.aS[j]?=some y→Sx.iD y=true)∧V=wr)
   case atStart=>exact ⟨0,rfl,by omega,Lh (fun j y hj=>absurd hj (Nat.not_lt_zero j)),rfl⟩
   case round=>
    obtain ⟨i,rfl,hi,dQ,rfl⟩:=hrel
    by_cases hlt:i < n2
    ·obtain ⟨y,hy⟩:∃ y,x.aS[i]?=some y:=⟨_,List.getElem?_eq_getElem (by have:=nE.out;omega)⟩
     have Hy:=Lh hy;obtain ⟨be,oe,ce,rfl,cO,hre,hce⟩:=R2.out.at_ i _ hy;obtain ⟨AQ,cQ,rfl,hnl,hrow⟩:=hre;have g6:=(Bl.out.cell (p:=⟨be,_,none⟩) cO).trans (hce 6 _ rfl);obtain ⟨nq,hnq⟩:∃ n,n=y.reqs.length:=⟨_,rfl⟩
     have YZ:=hrow.len;rw[←hnq] at g6 YZ;have NW:=Lh hnq;have QT:=Lh hrow;clear hy hce hnq hrow
     by_cases h70:70 < nq
     ·have HF:Hid (R=false):=Lh (by rw [HR.out];refine Sx.uV Hy.out ?_;unfold Sx.iD;rw[←NW.out];simp;omega);go_wp2_with fail;go_ret;exact ⟨aj HF.out.symm,Bl.out⟩
     obtain ⟨g4,rfl⟩:∃ g4,g4=gk:=⟨gk,rfl⟩
     go_wp2_with fail
     go_loopg [5] nq (fun gk v5 wr=>∃ k:Nat,v5 = .int .i64 k∧k+gk=nq∧Hid (∀ (j:Nat) z,j < k→y.reqs[j]?=some z→Sx.uw z=true)∧V=wr)
     case atStart=>exact ⟨0,rfl,by omega,Lh (fun j y hj=>absurd hj (Nat.not_lt_zero j)),rfl⟩
     case round=>
      obtain ⟨k,rfl,hk,Vn,rfl⟩:=hrel
      by_cases hlk:k < nq
      ·obtain ⟨z,hz⟩:∃ z,y.reqs[k]?=some z:=⟨_,List.getElem?_eq_getElem (by have:=NW.out;omega)⟩
       have Hz:=Lh hz;obtain ⟨bf,of,cf,rfl,BH,hrf,hcf⟩:=QT.out.at_ k _ hz;obtain ⟨A8,c8,B8,d8,rfl,-,h8,-⟩:=hrf;have l4:=(Bl.out.cell (p:=⟨bf,_,none⟩) BH).trans (hcf 4 _ rfl);obtain ⟨nn,hnn⟩:∃ n,n=z.names.length:=⟨_,rfl⟩
       have hzn:=h8.len;rw[←hnn] at l4 hzn;have EG:=Lh hnn;clear hz hcf hnn h8
       by_cases h20:20 < nn
       ·have HF:Hid (R=false):=Lh (by
         rw[HR.out];refine Sx.uV Hy.out ?_;unfold Sx.iD;rw[jf Hz.out (by unfold Sx.uw;rw[←EG.out];simp;omega)];simp)
        go_wp2_with fail;go_ret;exact ⟨aj HF.out.symm,Bl.out⟩
       ·go_wp2_with fail
        go_roundg (gk - 1)
        all_goals first
         | omega
         | exact ⟨k+1,by go_num,by omega,Lh (fun j u hj h1=>by
           rcases Nat.lt_or_ge j k with h3 | h3
           ·exact Vn.out j u h3 h1
           ·obtain rfl:j=k:=by omega
            rw[Hz.out] at h1;injection h1 with h1;rw[←h1];unfold Sx.uw;rw[←EG.out];simp;omega),rfl⟩
      ·obtain rfl:k=nq:=by omega
       go_wp2_with fail
       go_roundg (g4 - 1)
       all_goals first
        | omega
        | exact ⟨i+1,by go_num,by omega,Lh (fun j z hj h1=>by
          rcases Nat.lt_or_ge j i with h3 | h3
          ·exact dQ.out j z h3 h1
          ·obtain rfl:j=i:=by omega
           rw[Hy.out] at h1;injection h1 with h1;rw[←h1];unfold Sx.iD;rw[fA (fun j u hj=>Vn.out j u (by have:=NW.out;omega)),←NW.out];simp;omega),rfl⟩
    ·obtain rfl:i=n2:=by omega
     have HF:Hid (R=true):=Lh (by rw [HR.out];exact Sx.NV HT1.out HC.out (fun j y hj=>dQ.out j y (by have:=nE.out;omega)));go_wp2_with fail;go_ret;exact ⟨aj HF.out.symm,Bl.out⟩
section
variable {w W V : World} {a b i lo hi : Nat} {t : TypeId} {cs cs' : Array Value} {u : Value} {B : World}
theorem Y0 (e:V=W.alloc (.cells cs t)):Hid (aC V W.heap.size t cs)∧Below W.heap.size W V:=by rw [e];exact ⟨Lh (aC.new _ _ _),(Below.refl _ _).alloc (Nat.le_refl _) _⟩
structure Kp (lo hi : Nat) (B W : World) : Prop where
 le:hi≤W.heap.size
 eq:∀ b,lo≤b→b < hi→W.heap[b]?=B.heap[b]?
end
structure Kw (T : List Lx.Tok) (A : Option Addr) (w : World) : Prop where
 toks:iw w w.heap.size A T
 small:∀ t∈T,0≤t.n∧t.n≤1099511627776
 few:T.length≤1000000
theorem Kw.next {T:List Lx.Tok} {A:Option Addr} {w w':World} (h:Kw T A w) (hb:Below w.heap.size w w'):Kw T A w':=⟨(h.toks.below hb (Nat.le_refl _)).mono hb.size,h.small,h.few⟩
def Xc (T:List Lx.Tok) (s:Sx.R Unit) (k e p:Int):Prop:=
 match s with
 | .ok _ l=>e=0∧p=0∧∃ j:Nat,k=j∧j≤T.length∧l=T.drop j
 | .bad q x=>e=x∧p=q∧x≠0
def pv (A:Option Addr) (n c:Nat) (k last e p:Int):Value:=.agg #[.slice A n c,.int .i64 k,.int .i64 last,.int .i64 e,.int .i64 p]
theorem Kw.tok {T:List Lx.Tok} {A:Option Addr} {w:World} (h:Kw T A w) {j:Nat} {t:Lx.Tok} (ht:T[j]?=some t):∃ b o,A=some ⟨b,o,none⟩∧b < w.heap.size∧Cj w b (o+j*4) t:=h.toks.at_ j t ht
section
variable {T : List Lx.Tok} {A : Option Addr} {c : Nat} {last k e p : Int} {s : Sx.R Unit} {w : World}
theorem drop_cons {j:Nat} {t:Lx.Tok} {r:List Lx.Tok} (h:t::r=T.drop j):j < T.length∧T[j]?=some t∧r=T.drop (j+1):=by
 have h1:j < T.length:=by
  rcases Nat.lt_or_ge j T.length with h1 | h1
  ·exact h1
  ·rw[List.drop_eq_nil_of_le h1] at h;cases h
 rw[List.drop_eq_getElem_cons h1] at h;injection h with e1 e2;exact ⟨h1,by rw [e1];exact List.getElem?_eq_getElem h1,e2⟩
theorem Xc.cases {T:List Lx.Tok} {s:Sx.R Unit} {k e p:Int} (h:Xc T s k e p) :
  (s = .bad p e∧e≠0)∨(s = .ok () []∧e=0∧p=0∧k=T.length)∨∃ (j:Nat) (t:Lx.Tok),s = .ok () (t::T.drop (j+1))∧e=0∧p=0∧k=j∧j < T.length∧T[j]?=some t:=by
 cases s with
 | bad q x=>obtain ⟨rfl,rfl,h⟩:=h;exact .inl ⟨rfl,h⟩
 | ok u l=>
  obtain ⟨rfl,rfl,j,rfl,hj,hl⟩:=h;cases l with
  | nil=>
   have:T.length≤j:=by have:=congrArg List.length hl;rw[List.length_drop] at this;simp at this;omega
   exact .inr (.inl ⟨rfl,rfl,rfl,by omega⟩)
  | cons t r=>
   obtain ⟨h1,h2,h3⟩:=drop_cons hl;exact .inr (.inr ⟨j,t,by rw [h3],rfl,rfl,rfl,h1,h2⟩)
theorem Xc.tail {T:List Lx.Tok} {j:Nat} (h:j < T.length):Xc T (.ok () (T.drop (j+1))) ((j:Int)+1) 0 0:=⟨rfl,rfl,j+1,by simp,by omega,rfl⟩
end
section
variable {T : List Lx.Tok} {A : Option Addr} {c : Nat} {last k e p : Int} {s : Sx.R Unit} {w : World}
end
theorem Ky (a b:Nat) (h2:a≤1073741824) (h4:b≤1073741824) (w:World) :
  Calls Tryz.prog 200 #[.int .u64 a,.int .u64 b] w fun e w'=>e = .returned (.int .u64 (Nat.gcd a b:Nat))∧Below w.heap.size w w':=by
 obtain ⟨g,hg⟩:∃ g,g=Nat.gcd a b:=⟨_,rfl⟩
 rw[←hg];have Hg:=Lh hg;clear hg;go_enter Tryz.func200,Tryz.ntmps200;go_wp2_with fail
 go_loopw [0,1] (fun v0 v1 wr=>∃ x y:Nat,v0 = .int .u64 x∧v1 = .int .u64 y∧x≤1073741824∧y≤1073741824∧Hid (g=Nat.gcd x y)∧Hid (Below w.heap.size w wr)) (fun _ v1 _=>(intOf v1).toNat)
 case atStart=>exact ⟨a,b,rfl,rfl,h2,h4,Hg,Lh (Below.refl _ _)⟩
 case round=>
  obtain ⟨x,y,rfl,rfl,hx,hy,HG,HB⟩:=hrel
  by_cases h0:y=0
  ·subst h0;go_wp2_with fail;go_ret;exact ⟨bU (by rw [HG.out,Nat.gcd_zero_right]),HB.out⟩
  ·have hm:x % y < y:=Nat.mod_lt _ (by omega);have hy0:((y:Int) == 0)=false:=by simp;omega
   have hy1:1≤y:=by omega
   have HG2:Hid (g=Nat.gcd y (x % y)):=Lh (by rw [HG.out,Nat.gcd_comm x y,Nat.gcd_rec y x,Nat.gcd_comm]);clear h0;go_wp2_with fail
   go_region
   go_roundw
   case rel=>
    refine ⟨_,_,_,_,_,_,_,_,⟨y,x % y,?_,?_,hy,by omega,HG2,Lh HB.out.drew⟩,rfl⟩
    ·rfl
    ·rfl
   case measure=>
    simp[intOf];omega
def zI (b:Bool) (w:World) (e:Ending) (w':World):Prop:=e = .returned (.bool b)∧w=w'
theorem zI.bool {b:Bool} {w w':World} {e:Ending} (h:zI b w e w'):ak b w e w':=⟨h.1,by rw [←h.2];exact Below.refl _ _⟩
theorem qL (n a b:Int) (w:World):Calls Tryz.prog 134 #[.int .i64 n,.int .i64 a,.int .i64 b] w (zI (Sx.dX n a b) w):=by
 by_cases h:a≤n
 ·go_enter Tryz.func134,Tryz.ntmps134;go_wp2;go_ret;exact ⟨aj (by simp [Sx.dX,h]),rfl⟩
 ·go_enter Tryz.func134,Tryz.ntmps134;go_wp2;go_ret;exact ⟨aj (by simp [Sx.dX];omega),rfl⟩
theorem Xd (n a b:Int) (w:World):Calls Tryz.prog 134 #[.int .i64 n,.int .i64 a,.int .i64 b] w (ak (Sx.dX n a b) w):=(qL n a b w).mono fun _ _ h=>h.bool
theorem rP (x:List UInt8) (w:World) (hx:x.length≤140737488351232):Calls Tryz.prog 135 #[.string (Lx.bs x)] w (zI (Lx.isName x) w):=
 (rName (Lx.bs x) w (by rw [Lx.jc];unfold maxLen;omega)).mono fun e w' ⟨h1,h2⟩=>by
  rw[Lx.aK] at h1;exact ⟨h1,h2⟩
theorem qC (x:List UInt8) (n:Int) (w:World) (hx:x.length≤140737488351232):Calls Tryz.prog 136 #[.string (Lx.bs x),.int .i64 n] w (zI (Sx.bQ x n) w):=by
 have H2:=Lh (fun W=>rP x W hx);obtain ⟨R,hR⟩:∃ R,R=Sx.bQ x n:=⟨_,rfl⟩
 rw[←hR];unfold Sx.bQ at hR;have hbs:((Lx.bs x).toList == (⟨#[]⟩:ByteArray).toList)=x.isEmpty:=by rw [ByteArray.toList_eq,ByteArray.toList_eq,Lx.aK];cases x <;> rfl
 have fH:(Lx.bs x).toList.isEmpty=x.isEmpty:=by rw [ByteArray.toList_eq,Lx.aK]
 by_cases g1:0≤n
 case neg=>
  have HR:Hid (R=false):=Lh (by rw [hR];simp[Sx.dX,g1]);clear hR;go_enter Tryz.func136,Tryz.ntmps136;go_wp2_with fail;go_ret;exact ⟨aj HR.out.symm,rfl⟩
 by_cases g2:n < 4096
 case neg=>
  have HR:Hid (R=false):=Lh (by rw [hR];simp[Sx.dX];omega);clear hR;go_enter Tryz.func136,Tryz.ntmps136;go_wp2_with fail;go_ret;exact ⟨aj HR.out.symm,rfl⟩
 have hi:Sx.dX n 0 4095=true:=by simp [Sx.dX,g1];omega
 rw[hi,Bool.true_and] at hR;cases q2:x.isEmpty with
 | true=>
  rw[q2] at hbs fH hR;have HR:Hid (R=true):=Lh (by rw [hR];rfl);clear hR;go_enter Tryz.func136,Tryz.ntmps136;go_wp2_with fail;go_ret;exact ⟨aj HR.out.symm,rfl⟩
 | false=>
  rw[q2] at hbs fH hR;have HR:Hid (R=Lx.isName x):=Lh (by rw [hR];rfl);clear hR;go_enter Tryz.func136,Tryz.ntmps136;go_wp2_with fail;refine (H2.out _).mono ?_;rintro e w2 ⟨rfl,rfl⟩;go_wp2_with fail;go_ret;exact ⟨aj HR.out.symm,rfl⟩
theorem EH (x:List UInt8) (n:Int) (w:World) (hx:x.length≤140737488351232):Calls Tryz.prog 136 #[.string (Lx.bs x),.int .i64 n] w (ak (Sx.bQ x n) w):=(qC x n w hx).mono fun _ _ h=>h.bool
theorem Kz (n:Int) (h1:-1073741824≤n) (h2:n≤1073741824) (w:World):Calls Tryz.prog 201 #[.int .i64 n] w fun e w'=>e = .returned (.int .u64 (n.natAbs:Nat))∧w'=w:=by
 by_cases h0:n < 0
 ·go_enter Tryz.func201,Tryz.ntmps201;go_wp2;go_ret;exact ⟨bU (by simp only [IntKind.wrap,IntKind.signed,IntKind.bits];simp;omega),rfl⟩
 ·go_enter Tryz.func201,Tryz.ntmps201;go_wp2;go_ret;exact ⟨bU (by omega),rfl⟩
theorem Vo (n d:Int) (w:World):Calls Tryz.prog 192 #[.agg #[.int .i64 n,.int .i64 d]] w (FR (if Sx.bL.FT ⟨n,d⟩ then 0 else 50) w):=by
 obtain ⟨E,hE⟩:∃ E:Int,E=if Sx.bL.FT ⟨n,d⟩ then 0 else 50:=⟨_,rfl⟩
 rw[←hE];obtain ⟨R,hR⟩:∃ R,R=Sx.bL.FT ⟨n,d⟩:=⟨_,rfl⟩
 rw[←hR] at hE;have HE:=Lh hE;clear hE;unfold Sx.bL.FT at hR;simp only at hR;obtain ⟨W,hW⟩:∃ W,W=w.alloc (.cells #[.int .i64 n,.int .i64 d] 75):=⟨_,rfl⟩
 have hb0:Below w.heap.size w W:=by rw [hW];exact (Below.refl _ _).alloc (Nat.le_refl _) _
 have e0:aC W w.heap.size 75 #[.int .i64 n,.int .i64 d]:=by rw [hW];exact aC.new _ _ _
 have HB0:=Lh hb0;have aX:Hid (∀ w':World,Below W.heap.size W w'→w'.cell? ⟨w.heap.size,0,none⟩=some (.int .i64 n)∧w'.cell? ⟨w.heap.size,1,none⟩=some (.int .i64 d)):=Lh (fun w' hb=>by
  have g:=e0.below hb e0.lt;have x0:=g.cell 0;have x1:=g.cell 1;simp at x0 x1;exact ⟨x0,x1⟩)
 have ez:=e0.lt;obtain ⟨c0,c1⟩:=aX.out W (Below.refl _ _);clear hb0 e0
 by_cases g1:1≤d
 case neg=>
  have HR:Hid (R=false):=Lh (by rw [hR];simp[g1]);have q1:decide (d < 1)=true:=decide_eq_true (by omega);clear hR g1;go_enter Tryz.func192,Tryz.ntmps192;go_upto_region 1 with fail;rw[←hW];clear hW
  go_quiet (fail)
  all_goals (try go_wp2_with fail)
  all_goals go_ret
  all_goals exact ⟨bU (by rw [HE.out,HR.out];rfl),(by first | exact HB0.out | exact HB0.out.drew | exact ay HB0.out _)⟩
 have q1:decide (d < 1)=false:=decide_eq_false (by omega)
 by_cases g2:d≤1073741824
 case neg=>
  have HR:Hid (R=false):=Lh (by rw [hR];simp[g2]);have q2:decide (1073741824 < d)=true:=decide_eq_true (by omega);clear hR g2 g1;go_enter Tryz.func192,Tryz.ntmps192;go_upto_region 1 with fail;rw[←hW];clear hW
  go_quiet (fail)
  all_goals (try go_wp2_with fail)
  all_goals go_ret
  all_goals exact ⟨bU (by rw [HE.out,HR.out];rfl),(by first | exact HB0.out | exact HB0.out.drew | exact ay HB0.out _)⟩
 have q2:decide (1073741824 < d)=false:=decide_eq_false (by omega)
 by_cases g3:-1073741824≤n
 case neg=>
  have HR:Hid (R=false):=Lh (by rw [hR];simp[g3]);have q3:decide (n < -1073741824)=true:=decide_eq_true (by omega);clear hR g3 g2 g1;go_enter Tryz.func192,Tryz.ntmps192;go_upto_region 1 with fail;rw[←hW];clear hW
  go_quiet (fail)
  all_goals (try go_wp2_with fail)
  all_goals go_ret
  all_goals exact ⟨bU (by rw [HE.out,HR.out];rfl),(by first | exact HB0.out | exact HB0.out.drew | exact ay HB0.out _)⟩
 have q3:decide (n < -1073741824)=false:=decide_eq_false (by omega)
 by_cases g4:n≤1073741824
 case neg=>
  have HR:Hid (R=false):=Lh (by rw [hR];simp[g4]);have q4:decide (1073741824 < n)=true:=decide_eq_true (by omega);clear hR g4 g3 g2 g1;go_enter Tryz.func192,Tryz.ntmps192;go_upto_region 1 with fail;rw[←hW];clear hW
  go_quiet (fail)
  all_goals (try go_wp2_with fail)
  all_goals go_ret
  all_goals exact ⟨bU (by rw [HE.out,HR.out];rfl),(by first | exact HB0.out | exact HB0.out.drew | exact ay HB0.out _)⟩
 have q4:decide (1073741824 < n)=false:=decide_eq_false (by omega);obtain ⟨a,ha⟩:∃ a,a=n.natAbs:=⟨_,rfl⟩
 obtain ⟨b,hbd⟩:∃ b,b=d.natAbs:=⟨_,rfl⟩
 have N1:=Lh (fun W=>Kz n g3 g4 W);have N2:=Lh (fun W=>Kz d (by omega) g2 W);have N3:=Lh (fun W=>Ky a b (by omega) (by omega) W);obtain ⟨g,hg⟩:∃ g,g=Nat.gcd a b:=⟨_,rfl⟩
 have hgg:Int.gcd n d=g:=by rw [hg,ha,hbd];rfl
 rw[←ha] at N1;rw[←hbd] at N2;rw[←hg] at N3;rw[hgg] at hR;have Xa:=Lh hR;have HG:=Lh (show R=decide (g=1) by rw [hR];simp[g1,g2,g3,g4]);clear hR ha hbd hg hgg g1 g2 g3 g4;go_enter Tryz.func192,Tryz.ntmps192;go_upto_region 1 with fail;rw[←hW];clear hW
 go_region_held_law (fun w':World=>w'.cell? ⟨w.heap.size,0,none⟩=some (.int .i64 n)∧w'.cell? ⟨w.heap.size,1,none⟩=some (.int .i64 d)) (first | exact aX.out _ (Below.refl W.heap.size W).drew | go_keep) (first
  | (go_at_call 200;refine (N3.out _).mono ?_;rintro e w7 ⟨rfl,xI⟩;have KC:=Below.trans (Below.refl W.heap.size W).drew xI;obtain ⟨r0,r1⟩:=aX.out w7 KC;have LZ:=Lh KC;clear xI KC)
  | (go_at_call 201;refine (N1.out _).mono ?_;rintro e w7 ⟨rfl,rfl⟩)
  | (go_at_call 201;refine (N2.out _).mono ?_;rintro e w7 ⟨rfl,rfl⟩))
 all_goals (
  cases q5:((g:Int) != 1) with
  | true=>
   have HR:Hid (R=false):=Lh (by rw [HG.out];exact decide_eq_false (by intro e;rw[e] at q5;simp at q5))
   try go_wp2_with fail
   go_ret;exact ⟨bU (by rw [HE.out,HR.out];rfl),HB0.out.trans (LZ.out.mono HB0.out.size)⟩
  | false=>
   have HR:Hid (R=true):=Lh (by rw [HG.out];exact decide_eq_true (by have h:(g:Int)=1:=(by simpa using q5);omega))
   try go_wp2_with fail
   go_ret;exact ⟨bU (by rw [HE.out,HR.out];rfl),HB0.out.trans (LZ.out.mono HB0.out.size)⟩)
theorem FU (n d:Int) (w:World):Calls Tryz.prog 137 #[.agg #[.int .i64 n,.int .i64 d]] w (ak (Sx.bL.fine ⟨n,d⟩) w):=by
 obtain ⟨R,hR⟩:∃ R,R=Sx.bL.fine ⟨n,d⟩:=⟨_,rfl⟩
 rw[←hR];rw[Sx.Cz] at hR;have H1:=Lh (fun W=>Vo n d W);have hb0:Below w.heap.size w (w.alloc (.cells #[.int .i64 n,.int .i64 d] 75)):=(Below.refl _ _).alloc (Nat.le_refl _) _;have e0:aC (w.alloc (.cells #[.int .i64 n,.int .i64 d] 75)) w.heap.size 75 #[.int .i64 n,.int .i64 d]:=aC.new _ _ _;have HB0:=Lh hb0;have E0:=Lh e0;clear hb0 e0;cases g0:Sx.bL.FT ⟨n,d⟩ with
 | false=>
  rw[g0] at hR H1;have HR:Hid (R=false):=Lh (by rw [hR];rfl);clear hR;simp only[Bool.false_eq_true,if_false] at H1;go_enter Tryz.func137,Tryz.ntmps137;go_wp2_with fail;refine (H1.out _).mono ?_;rintro e w1 ⟨rfl,hb1⟩;have HB1:=Lh (HB0.out.trans (hb1.mono HB0.out.size));clear hb1;go_wp2_with fail;go_ret;exact ⟨aj HR.out.symm,HB1.out⟩
 | true=>
 have hk:=g0;unfold Sx.bL.FT at hk;simp only[Bool.and_eq_true,decide_eq_true_eq] at hk;obtain ⟨⟨⟨⟨k1,k2⟩,k3⟩,k4⟩,-⟩:=hk;rw[g0] at hR H1;simp only[if_true] at H1;rw[Bool.true_and] at hR
 by_cases g1:0≤n
 case neg=>
  have HR:Hid (R=false):=Lh (by rw [hR];simp[g1]);clear hR;go_enter Tryz.func137,Tryz.ntmps137;go_wp2_with fail;refine (H1.out _).mono ?_;rintro e w1 ⟨rfl,hb1⟩;have HB1:=Lh (HB0.out.trans (hb1.mono HB0.out.size));have b1:=E0.out.below hb1 E0.out.lt;have x0:=b1.cell 0;have x1:=b1.cell 1;simp at x0 x1;have q1:decide (0≤n)=false:=decide_eq_false (by omega);clear hb1 b1 g1;go_wp2_with fail;go_ret;exact ⟨aj HR.out.symm,HB1.out⟩
 by_cases g2:d≤1000
 case neg=>
  have HR:Hid (R=false):=Lh (by rw [hR];simp[g2]);clear hR;go_enter Tryz.func137,Tryz.ntmps137;go_wp2_with fail;refine (H1.out _).mono ?_;rintro e w1 ⟨rfl,hb1⟩;have HB1:=Lh (HB0.out.trans (hb1.mono HB0.out.size));have b1:=E0.out.below hb1 E0.out.lt;have x0:=b1.cell 0;have x1:=b1.cell 1;simp at x0 x1;have q1:decide (0≤n)=true:=decide_eq_true g1;have q2:decide (d≤1000)=false:=decide_eq_false (by omega);clear hb1 b1 g2;go_wp2_with fail;go_ret;exact ⟨aj HR.out.symm,HB1.out⟩
 have HR:Hid (R=decide (n≤12*d)):=Lh (by rw [hR];simp[g1,g2]);have hw:IntKind.i64.wrap (12*d)=12*d:=IntWalk.i64_in _ (by omega);clear hR;go_enter Tryz.func137,Tryz.ntmps137;go_wp2_with fail;refine (H1.out _).mono ?_;rintro e w1 ⟨rfl,hb1⟩;have HB1:=Lh (HB0.out.trans (hb1.mono HB0.out.size));have b1:=E0.out.below hb1 E0.out.lt;have x0:=b1.cell 0;have x1:=b1.cell 1;simp at x0 x1;have q1:decide (0≤n)=true:=decide_eq_true g1;have q2:decide (d≤1000)=true:=decide_eq_true g2;clear hb1 b1;go_wp2_with fail;go_ret;exact ⟨aj HR.out.symm,HB1.out⟩
end Go.Proofs.YtjonaidancomgaaGreatDoor
