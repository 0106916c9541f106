/- Parts of the proof, joined into one text: q1u. -/
import Derived.Test.YtjonaidancomgaaGreatDoorPSxIsB
import Derived.Deep.CutRange
namespace Go.Proofs.YtjonaidancomgaaGreatDoor
open Go.RowKit
theorem Sx.rQ {c:Sx.dh} {α:Type} {l:List α} {b:α→Bool} {i:Nat} {x:α} (h:l[i]?=some x) (hl:Sx.eX c=true→l.all b=true) (hb:b x=false):Sx.eX c=false:=by
 cases q:Sx.eX c with
 | false=>rfl
 | true=>have:=hl q;rw[jf h hb] at this;cases this
theorem Sx.iY {c:Sx.dh} (h:Sx.eX c=true):c.courses.all Sx.dw=true∧c.same.all Sx.gW=true∧c.aS.all Sx.dW=true∧c.classes.all Sx.fT=true∧c.bZ.all Sx.jo=true∧c.aJ.all Sx.fT=true∧c.clauses.all Sx.dL=true:=by
 unfold Sx.eX at h;simp only[Bool.and_eq_true] at h;exact ⟨h.1.1.1.1.1.1,h.1.1.1.1.1.2,h.1.1.1.1.2,h.1.1.1.2,h.1.1.2,h.1.2,h.2⟩
theorem kQ {α:Type} {l:List α} {b:α→Bool} {i:Nat} {y:α} (h:∀ (j:Nat) z,j < i→l[j]?=some z→b z=true) (hy:l[i]?=some y) (hb:b y=true):∀ (j:Nat) z,j < i+1→l[j]?=some z→b z=true:=fun j z hj h1=>by
 rcases Nat.lt_or_ge j i with h3 | h3
 ·exact h j z h3 h1
 ·obtain rfl:j=i:=by omega
  rw[hy] at h1;injection h1 with h1;rw[←h1];exact hb
theorem nR {α:Type} {l:List α} {b:α→Bool} : ∀ (j:Nat) z,j < 0→l[j]?=some z→b z=true:=fun _ _ h=>absurd h (Nat.not_lt_zero _)
theorem sZ {f:FuncId} {args:Array Value} {w:World} {n:Nat} {b:Bool} (h:Calls Tryz.prog f args (w.drewN n) (zI b (w.drewN n))):Calls Tryz.prog f args (w.drewN n) fun e w''=>e = .returned (.bool b)∧∃ m,w''=w.drewN m:=
 h.mono fun _ _ ⟨he,hm⟩=>⟨he,n,hm.symm⟩
theorem j5 {w a b:World} (h:Hid (Below w.heap.size w a)) (k:Below a.heap.size a b):Hid (Below w.heap.size w b):=Lh (h.out.trans (k.mono h.out.size))
set_option maxRecDepth 20000 in
set_option maxHeartbeats 32000000 in
theorem PX (x:Sx.dh) (w:World) (ca:List Value) (ha:bE w (Old w) x ca):Calls Tryz.prog 54 #[.agg ca.toArray] w (ak (Sx.eX x) w):=by
 obtain ⟨R,hR⟩:∃ R,R=Sx.eX x:=⟨_,rfl⟩
 rw[←hR];have HR:=Lh hR;obtain ⟨A0,c0,A1,c1,A2,c2,A3,c3,A4,c4,A5,c5,A6,c6,rfl,r0,r1,r2,r3,r4,r5,r6⟩:=ha;obtain ⟨n0,hn0⟩:∃ n,n=x.courses.length:=⟨_,rfl⟩
 have z0:=r0.len;rw[←hn0] at z0;have N0:=Lh (fun (i:Nat) (y) (h:x.courses[i]?=some y) (hb:Sx.dw y=false)=>(hR.trans (Sx.rQ h (fun h=>(Sx.iY h).1) hb):R=false));obtain ⟨n1,hn1⟩:∃ n,n=x.same.length:=⟨_,rfl⟩
 have z1:=r1.len;rw[←hn1] at z1;have N1:=Lh (fun (i:Nat) (y) (h:x.same[i]?=some y) (hb:Sx.gW y=false)=>(hR.trans (Sx.rQ h (fun h=>(Sx.iY h).2.1) hb):R=false));obtain ⟨n2,hn2⟩:∃ n,n=x.aS.length:=⟨_,rfl⟩
 have z2:=r2.len;rw[←hn2] at z2;have N2:=Lh (fun (i:Nat) (y) (h:x.aS[i]?=some y) (hb:Sx.dW y=false)=>(hR.trans (Sx.rQ h (fun h=>(Sx.iY h).2.2.1) hb):R=false));obtain ⟨n3,rH⟩:∃ n,n=x.classes.length:=⟨_,rfl⟩
 have z3:=r3.len;rw[←rH] at z3;have N3:=Lh (fun (i:Nat) (y) (h:x.classes[i]?=some y) (hb:Sx.fT y=false)=>(hR.trans (Sx.rQ h (fun h=>(Sx.iY h).2.2.2.1) hb):R=false));obtain ⟨n4,uS⟩:∃ n,n=x.bZ.length:=⟨_,rfl⟩
 have z4:=r4.len;rw[←uS] at z4;have N4:=Lh (fun (i:Nat) (y) (h:x.bZ[i]?=some y) (hb:Sx.jo y=false)=>(hR.trans (Sx.rQ h (fun h=>(Sx.iY h).2.2.2.2.1) hb):R=false));obtain ⟨n5,uT⟩:∃ n,n=x.aJ.length:=⟨_,rfl⟩
 have z5:=r5.len;rw[←uT] at z5;have N5:=Lh (fun (i:Nat) (y) (h:x.aJ[i]?=some y) (hb:Sx.fT y=false)=>(hR.trans (Sx.rQ h (fun h=>(Sx.iY h).2.2.2.2.2.1) hb):R=false));obtain ⟨n6,uU⟩:∃ n,n=x.clauses.length:=⟨_,rfl⟩
 have z6:=r6.len;rw[←uU] at z6;have N6:=Lh (fun (i:Nat) (y) (h:x.clauses[i]?=some y) (hb:Sx.dL y=false)=>(hR.trans (Sx.rQ h (fun h=>(Sx.iY h).2.2.2.2.2.2) hb):R=false));rw[←hn0,←hn1,←hn2,←rH,←uS,←uT,←uU];obtain ⟨W,hW⟩:∃ W,W=w.alloc (.cells #[.slice A0 n0 c0,.slice A1 n1 c1,.slice A2 n2 c2,.slice A3 n3 c3,.slice A4 n4 c4,.slice A5 n5 c5,.slice A6 n6 c6] 30):=⟨_,rfl⟩
 have hb0:Below w.heap.size w W:=by rw [hW];exact (Below.refl _ _).alloc (Nat.le_refl _) _
 have e0:aC W w.heap.size 30 #[.slice A0 n0 c0,.slice A1 n1 c1,.slice A2 n2 c2,.slice A3 n3 c3,.slice A4 n4 c4,.slice A5 n5 c5,.slice A6 n6 c6]:=by rw [hW];exact aC.new _ _ _
 have sF:=Lh e0;have HB0:=Lh hb0;have AZ:=Lh hn0;have R0:=Lh r0;have tO:=Lh hn1;have R1:=Lh r1;have nE:=Lh hn2;have R2:=Lh r2;have yS:=Lh rH;have R3:=Lh r3;have Mf:=Lh uS;have R4:=Lh r4;have Mg:=Lh uT;have R5:=Lh r5;have Mh:=Lh uU;have R6:=Lh r6
 have iW:Hid (∀ w':World,Below W.heap.size W w'→w'.cell? ⟨w.heap.size,0,none⟩=some (.slice A0 n0 c0)∧w'.cell? ⟨w.heap.size,1,none⟩=some (.slice A1 n1 c1)∧w'.cell? ⟨w.heap.size,2,none⟩=some (.slice A2 n2 c2)∧w'.cell? ⟨w.heap.size,3,none⟩=some (.slice A3 n3 c3)∧w'.cell? ⟨w.heap.size,4,none⟩=some (.slice A4 n4 c4)∧w'.cell? ⟨w.heap.size,5,none⟩=some (.slice A5 n5 c5)∧w'.cell? ⟨w.heap.size,6,none⟩=some (.slice A6 n6 c6)∧w.heap.size < w'.heap.size):=Lh (fun w' hb=>bJ (sF.out.below hb sF.out.lt));have hWs:=hb0.size;have kz:=e0.lt;clear hR hn0 hn1 hn2 rH uS uT uU r0 r1 r2 r3 r4 r5 r6 hb0 e0
 go_enter Tryz.func54,Tryz.ntmps54;go_upto_region 1 with fail;rw[←hW];clear hW;go_wp2_with fail
 go_loopg [3] n0 (fun gk v3 wr=>∃ i:Nat,v3 = .int .i64 i∧i+gk=n0∧Hid (∀ (j:Nat) y,j < i→x.courses[j]?=some y→Sx.dw y=true)∧Hid (Below W.heap.size W wr))
 case atStart=>exact ⟨0,rfl,by omega,Lh nR,Lh (Below.refl _ _)⟩
 case round=>
  obtain ⟨i,rfl,hi,dQ,Hb⟩:=hrel;have Bl:=Lh (HB0.out.trans (Hb.out.mono HB0.out.size));obtain ⟨k0,k1,k2,k3,k4,k5,k6,kw⟩:=iW.out _ Hb.out
  by_cases hlt:i < n0
  ·obtain ⟨y,hy⟩:∃ y,x.courses[i]?=some y:=⟨_,List.getElem?_eq_getElem (by have:=AZ.out;omega)⟩
   have Hy:=Lh hy;obtain ⟨be,oe,ce,rfl,cO,hre,hce⟩:=R0.out.at_ i _ hy
   as_aux_lemma=>
   obtain ⟨cn,cb,rfl,hnl,hcn,hcb⟩:=hre;have HN:=Lh hcn;have N9:=Lh hcb;obtain ⟨i0,i1,s2,i3,i4,A7,n7,c7,rfl⟩:=bG hcn;obtain ⟨j0,j1,t2,j3,j4,B7,m7,d7,rfl⟩:=bG hcb;have g0:=(Bl.out.cell (p:=⟨be,_,none⟩) cO).trans (hce 0 _ rfl);have g1:=(Bl.out.cell (p:=⟨be,_,none⟩) cO).trans (hce 1 _ rfl);have g2:=(Bl.out.cell (p:=⟨be,_,none⟩) cO).trans (hce 2 _ rfl);have g3:=(Bl.out.cell (p:=⟨be,_,none⟩) cO).trans (hce 3 _ rfl);have g4:=(Bl.out.cell (p:=⟨be,_,none⟩) cO).trans (hce 4 _ rfl);have g5:=(Bl.out.cell (p:=⟨be,_,none⟩) cO).trans (hce 5 _ rfl)
   have g6:=(Bl.out.cell (p:=⟨be,_,none⟩) cO).trans (hce 6 _ rfl);have g7:=(Bl.out.cell (p:=⟨be,_,none⟩) cO).trans (hce 7 _ rfl);have g8:=(Bl.out.cell (p:=⟨be,_,none⟩) cO).trans (hce 8 _ rfl);have g9:=(Bl.out.cell (p:=⟨be,_,none⟩) cO).trans (hce 9 _ rfl);have g10:=(Bl.out.cell (p:=⟨be,_,none⟩) cO).trans (hce 10 _ rfl);have g11:=(Bl.out.cell (p:=⟨be,_,none⟩) cO).trans (hce 11 _ rfl);have g12:=(Bl.out.cell (p:=⟨be,_,none⟩) cO).trans (hce 12 _ rfl);have g13:=(Bl.out.cell (p:=⟨be,_,none⟩) cO).trans (hce 13 _ rfl);have g14:=(Bl.out.cell (p:=⟨be,_,none⟩) cO).trans (hce 14 _ rfl)
   have g15:=(Bl.out.cell (p:=⟨be,_,none⟩) cO).trans (hce 15 _ rfl)
   try simp only [Nat.add_zero,bB,aT] at g0 g1 g2 g3 g4 g5 g6 g7 g8 g9 g10 g11 g12 g13 g14 g15
   clear hce hy;obtain ⟨v,hv⟩:∃ V,V=wr.alloc (.cells #[.string (Lx.bs y.name),.int .i64 y.number,.int .i64 y.aU,.int .i64 y.rep,.int .i64 i0,.int .i64 i1,.string s2,.int .i64 i3,.int .i64 i4,.slice A7 n7 c7,.int .i64 j0,.int .i64 j1,.string t2,.int .i64 j3,.int .i64 j4,.slice B7 m7 d7] 58):=⟨_,rfl⟩
   have hb0:Below wr.heap.size wr v:=by rw [hv];exact (Below.refl _ _).alloc (Nat.le_refl _) _
   have e0:aC v wr.heap.size 58 #[.string (Lx.bs y.name),.int .i64 y.number,.int .i64 y.aU,.int .i64 y.rep,.int .i64 i0,.int .i64 i1,.string s2,.int .i64 i3,.int .i64 i4,.slice A7 n7 c7,.int .i64 j0,.int .i64 j1,.string t2,.int .i64 j3,.int .i64 j4,.slice B7 m7 d7]:=by rw [hv];exact aC.new _ _ _
   have V:=j5 Hb hb0;have X:=Lh e0;go_upto_region 5 with fail;rw[←hv];clear hv hb0 e0 g0 g1 g2 g3 g4 g5 g6 g7 g8 g9 g10 g11 g12 g13 g14 g15 k0 k1 k2 k3 k4 k5 k6 kw;obtain ⟨y0,y1,y2,y3,y4,y5,y6,y7,y8,y9,FM,ND,NG,y13,NH,NI,yz⟩:=fM X.out;obtain ⟨k0,k1,k2,k3,k4,k5,k6,kw⟩:=iW.out _ V.out;go_wp2_with fail;refine (qL y.number 0 4095 _).mono ?_;rintro e w' ⟨rfl,rfl⟩;cases q0:Sx.dX y.number 0 4095 with
   | false=>
    have HF:=Lh (N0.out _ _ Hy.out (by unfold Sx.dw;rw[q0];simp));go_wp2_with fail;go_ret;exact ⟨aj HF.out.symm,HB0.out.trans (V.out.mono HB0.out.size)⟩
   | true=>
   have Q0:=Lh q0;clear q0;go_wp2_with fail;refine (rP y.name _ hnl).mono ?_;rintro e w' ⟨rfl,rfl⟩;cases q1:Lx.isName y.name with
   | false=>
    have HF:=Lh (N0.out _ _ Hy.out (by unfold Sx.dw;rw[Q0.out,q1];simp));go_wp2_with fail;go_ret;exact ⟨aj HF.out.symm,HB0.out.trans (V.out.mono HB0.out.size)⟩
   | true=>
   have Q1:=Lh q1;clear q1;go_wp2_with fail;refine (qL y.aU 1 60 _).mono ?_;rintro e w' ⟨rfl,rfl⟩;cases q2:Sx.dX y.aU 1 60 with
   | false=>
    have HF:=Lh (N0.out _ _ Hy.out (by unfold Sx.dw;rw[Q0.out,Q1.out,q2];simp));go_wp2_with fail;go_ret;exact ⟨aj HF.out.symm,HB0.out.trans (V.out.mono HB0.out.size)⟩
   | true=>
   have Q2:=Lh q2;clear q2;go_wp2_with fail;refine (qL y.rep 0 2 _).mono ?_;rintro e w' ⟨rfl,rfl⟩;cases q3:Sx.dX y.rep 0 2 with
   | false=>
    have HF:=Lh (N0.out _ _ Hy.out (by unfold Sx.dw;rw[Q0.out,Q1.out,Q2.out,q3];simp));go_wp2_with fail;go_ret;exact ⟨aj HF.out.symm,HB0.out.trans (V.out.mono HB0.out.size)⟩
   | true=>
   have Q3:=Lh q3;clear q3;go_wp2_with fail;refine (vU 16 1 (by decide) (by decide) y.need v _ (HN.out.old (HB0.out.trans (V.out.mono HB0.out.size)))).mono ?_;rintro e v_1 ⟨rfl,hb⟩;replace V:=j5 V hb;replace X:=Lh (X.out.below hb X.out.lt);clear hb k0 k1 k2 k3 k4 k5 k6 kw y0 y1 y2 y3 y4 y5 y6 y7 y8 y9 FM ND NG y13 NH NI yz;obtain ⟨y0,y1,y2,y3,y4,y5,y6,y7,y8,y9,FM,ND,NG,y13,NH,NI,yz⟩:=fM X.out;obtain ⟨k0,k1,k2,k3,k4,k5,k6,kw⟩:=iW.out _ V.out;cases q4:Sx.aO 16 y.need with
   | false=>
    have HF:=Lh (N0.out _ _ Hy.out (by unfold Sx.dw;rw[Q0.out,Q1.out,Q2.out,Q3.out,q4];simp));go_wp2_with fail;go_ret;exact ⟨aj HF.out.symm,HB0.out.trans (V.out.mono HB0.out.size)⟩
   | true=>
   have Q4:=Lh q4;clear q4;go_wp2_with fail;refine (vU 16 1 (by decide) (by decide) y.bar v_1 _ (N9.out.old (HB0.out.trans (V.out.mono HB0.out.size)))).mono ?_;rintro e v_2 ⟨rfl,hb⟩;replace V:=j5 V hb;replace X:=Lh (X.out.below hb X.out.lt);clear hb k0 k1 k2 k3 k4 k5 k6 kw y0 y1 y2 y3 y4 y5 y6 y7 y8 y9 FM ND NG y13 NH NI yz;obtain ⟨y0,y1,y2,y3,y4,y5,y6,y7,y8,y9,FM,ND,NG,y13,NH,NI,yz⟩:=fM X.out;obtain ⟨k0,k1,k2,k3,k4,k5,k6,kw⟩:=iW.out _ V.out;cases q5:Sx.aO 16 y.bar with
   | false=>
    have HF:=Lh (N0.out _ _ Hy.out (by unfold Sx.dw;rw[Q0.out,Q1.out,Q2.out,Q3.out,Q4.out,q5];simp));go_wp2_with fail;go_ret;exact ⟨aj HF.out.symm,HB0.out.trans (V.out.mono HB0.out.size)⟩
   | true=>
   have Q5:=Lh q5;clear q5;go_wp2_with fail
   go_roundg (gk - 1)
   all_goals first
    | omega
    | exact ⟨i+1,by go_num,by omega,Lh (kQ dQ.out Hy.out (by unfold Sx.dw;rw[Q0.out,Q1.out,Q2.out,Q3.out,Q4.out,Q5.out];rfl)),V⟩
  ·obtain rfl:i=n0:=by omega
   have HC:Hid (x.courses.all Sx.dw=true):=Lh (fA fun j y hj=>dQ.out j y (by have:=AZ.out;omega))
   rename World=>wC
   have BLC:=Hb;clear hi dQ Bl Hb hlt
   as_aux_lemma=>
   go_wp2_with fail;clear k0 k1 k2 k3 k4 k5 k6 kw
   go_loopg [5] n1 (fun gk v5 wr=>∃ i:Nat,v5 = .int .i64 i∧i+gk=n1∧Hid (∀ (j:Nat) y,j < i→x.same[j]?=some y→Sx.gW y=true)∧Hid (Below W.heap.size W wr))
   case atStart=>exact ⟨0,rfl,by omega,Lh nR,BLC⟩
   case round=>
    obtain ⟨i,rfl,hi,dQ,Hb⟩:=hrel;have Bl:=Lh (HB0.out.trans (Hb.out.mono HB0.out.size));obtain ⟨k0,k1,k2,k3,k4,k5,k6,kw⟩:=iW.out _ Hb.out
    by_cases hlt:i < n1
    ·obtain ⟨y,hy⟩:∃ y,x.same[i]?=some y:=⟨_,List.getElem?_eq_getElem (by have:=tO.out;omega)⟩
     have Hy:=Lh hy;obtain ⟨be,oe,ce,rfl,cO,hre,hce⟩:=R1.out.at_ i _ hy
     as_aux_lemma=>
     obtain ⟨rfl,hla,hlb⟩:=hre;have g0:=(Bl.out.cell (p:=⟨be,_,none⟩) cO).trans (hce 0 _ rfl);have g1:=(Bl.out.cell (p:=⟨be,_,none⟩) cO).trans (hce 1 _ rfl);have g2:=(Bl.out.cell (p:=⟨be,_,none⟩) cO).trans (hce 2 _ rfl);have g3:=(Bl.out.cell (p:=⟨be,_,none⟩) cO).trans (hce 3 _ rfl)
     try simp only [Nat.add_zero,bB,aT] at g0 g1 g2 g3
     clear hce hy;cases q0:Sx.bQ y.a y.x with
     | false=>
      have P0:=Lh (fun w=>by have h:=qC y.a y.x w hla;rw[q0] at h;exact h);have HF:=Lh (N1.out _ _ Hy.out (by unfold Sx.gW;rw[q0];simp));go_wp2_with fail
      go_quiet ((go_at_call 136;with_reducible exact sZ (P0.out _)))
      all_goals (try go_wp2_with fail)
      all_goals go_ret
      all_goals exact ⟨aj HF.out.symm,by first | exact Bl.out | exact ay Bl.out _⟩
     | true=>
     have P0:=Lh (fun w=>by have h:=qC y.a y.x w hla;rw[q0] at h;exact h);cases q1:Sx.bQ y.b y.y with
     | false=>
      have P1:=Lh (fun w=>by have h:=qC y.b y.y w hlb;rw[q1] at h;exact h);have HF:=Lh (N1.out _ _ Hy.out (by unfold Sx.gW;rw[q0,q1];simp));go_wp2_with fail
      go_quiet (first | (go_at_call 136;with_reducible exact sZ (P0.out _)) | (go_at_call 136;with_reducible exact sZ (P1.out _)))
      all_goals (try go_wp2_with fail)
      all_goals go_ret
      all_goals exact ⟨aj HF.out.symm,by first | exact Bl.out | exact ay Bl.out _⟩
     | true=>
     have P1:=Lh (fun w=>by have h:=qC y.b y.y w hlb;rw[q1] at h;exact h);go_wp2_with fail
     go_quiet (first | (go_at_call 136;with_reducible exact sZ (P0.out _)) | (go_at_call 136;with_reducible exact sZ (P1.out _)))
     all_goals (try go_wp2_with fail)
     all_goals go_roundg (gk - 1)
     all_goals first
      | omega
      | exact ⟨i+1,by go_num,by omega,Lh (kQ dQ.out Hy.out (by unfold Sx.gW;rw[q0,q1];rfl)),Lh (by first | exact Hb.out | exact ay Hb.out _)⟩
    ·obtain rfl:i=n1:=by omega
     have HS:Hid (x.same.all Sx.gW=true):=Lh (fA fun j y hj=>dQ.out j y (by have:=tO.out;omega))
     rename World=>wS
     have BLS:=Hb;clear hi dQ Bl Hb hlt
     as_aux_lemma=>
     go_wp2_with fail;clear k0 k1 k2 k3 k4 k5 k6 kw
     go_loopg [6] n2 (fun gk v6 wr=>∃ i:Nat,v6 = .int .i64 i∧i+gk=n2∧Hid (∀ (j:Nat) y,j < i→x.aS[j]?=some y→Sx.dW y=true)∧Hid (Below W.heap.size W wr))
     case atStart=>exact ⟨0,rfl,by omega,Lh nR,BLS⟩
     case round=>
      obtain ⟨i,rfl,hi,dQ,Hb⟩:=hrel;have Bl:=Lh (HB0.out.trans (Hb.out.mono HB0.out.size));obtain ⟨k0,k1,k2,k3,k4,k5,k6,kw⟩:=iW.out _ Hb.out
      by_cases hlt:i < n2
      ·obtain ⟨y,hy⟩:∃ y,x.aS[i]?=some y:=⟨_,List.getElem?_eq_getElem (by have:=nE.out;omega)⟩
       have Hy:=Lh hy;obtain ⟨be,oe,ce,rfl,cO,hre,hce⟩:=R2.out.at_ i _ hy
       as_aux_lemma=>
       obtain ⟨AQ,cQ,rfl,hnl,hrow⟩:=hre;obtain ⟨nq,hnq⟩:∃ n,n=y.reqs.length:=⟨_,rfl⟩
       have YZ:=hrow.len;rw[←hnq] at hce YZ;have NW:=Lh hnq;have QT:=Lh hrow;clear hnq hrow;have g0:=(Bl.out.cell (p:=⟨be,_,none⟩) cO).trans (hce 0 _ rfl);have g1:=(Bl.out.cell (p:=⟨be,_,none⟩) cO).trans (hce 1 _ rfl);have g2:=(Bl.out.cell (p:=⟨be,_,none⟩) cO).trans (hce 2 _ rfl);have g3:=(Bl.out.cell (p:=⟨be,_,none⟩) cO).trans (hce 3 _ rfl);have g4:=(Bl.out.cell (p:=⟨be,_,none⟩) cO).trans (hce 4 _ rfl);have g5:=(Bl.out.cell (p:=⟨be,_,none⟩) cO).trans (hce 5 _ rfl);have g6:=(Bl.out.cell (p:=⟨be,_,none⟩) cO).trans (hce 6 _ rfl)
       try simp only [Nat.add_zero,bB,aT] at g0 g1 g2 g3 g4 g5 g6
       clear hce hy;obtain ⟨v,hv⟩:∃ V,V=wr.alloc (.cells #[.string (Lx.bs y.name),.int .i64 y.number,.int .i64 y.uses,.int .i64 y.gD,.int .i64 y.mean.num,.int .i64 y.mean.den,.slice AQ nq cQ] 78):=⟨_,rfl⟩
       have hb0:Below wr.heap.size wr v:=by rw [hv];exact (Below.refl _ _).alloc (Nat.le_refl _) _
       have e0:aC v wr.heap.size 78 #[.string (Lx.bs y.name),.int .i64 y.number,.int .i64 y.uses,.int .i64 y.gD,.int .i64 y.mean.num,.int .i64 y.mean.den,.slice AQ nq cQ]:=by rw [hv];exact aC.new _ _ _
       have V:=j5 Hb hb0;have X:=Lh e0;go_upto_region 16 with fail;rw[←hv];clear hv hb0 e0 g0 g1 g2 g3 g4 g5 g6 k0 k1 k2 k3 k4 k5 k6 kw;obtain ⟨y0,y1,y2,y3,y4,y5,y6,yz⟩:=bJ X.out;obtain ⟨k0,k1,k2,k3,k4,k5,k6,kw⟩:=iW.out _ V.out;go_wp2_with fail;refine (qL y.number 0 255 _).mono ?_;rintro e w' ⟨rfl,rfl⟩;cases q0:Sx.dX y.number 0 255 with
       | false=>
        have HF:=Lh (N2.out _ _ Hy.out (by unfold Sx.dW;rw[q0];simp));go_wp2_with fail;go_ret;exact ⟨aj HF.out.symm,HB0.out.trans (V.out.mono HB0.out.size)⟩
       | true=>
       have Q0:=Lh q0;clear q0;go_wp2_with fail;refine (rP y.name _ hnl).mono ?_;rintro e w' ⟨rfl,rfl⟩;cases q1:Lx.isName y.name with
       | false=>
        have HF:=Lh (N2.out _ _ Hy.out (by unfold Sx.dW;rw[Q0.out,q1];simp));go_wp2_with fail;go_ret;exact ⟨aj HF.out.symm,HB0.out.trans (V.out.mono HB0.out.size)⟩
       | true=>
       have Q1:=Lh q1;clear q1;go_wp2_with fail;refine (qL y.uses 1 4 _).mono ?_;rintro e w' ⟨rfl,rfl⟩;cases q2:Sx.dX y.uses 1 4 with
       | false=>
        have HF:=Lh (N2.out _ _ Hy.out (by unfold Sx.dW;rw[Q0.out,Q1.out,q2];simp));go_wp2_with fail;go_ret;exact ⟨aj HF.out.symm,HB0.out.trans (V.out.mono HB0.out.size)⟩
       | true=>
       have Q2:=Lh q2;clear q2;go_wp2_with fail;refine (qL y.gD 0 10000 _).mono ?_;rintro e w' ⟨rfl,rfl⟩;cases q3:Sx.dX y.gD 0 10000 with
       | false=>
        have HF:=Lh (N2.out _ _ Hy.out (by unfold Sx.dW;rw[Q0.out,Q1.out,Q2.out,q3];simp));go_wp2_with fail;go_ret;exact ⟨aj HF.out.symm,HB0.out.trans (V.out.mono HB0.out.size)⟩
       | true=>
       have Q3:=Lh q3;clear q3;go_wp2_with fail;refine (FU y.mean.num y.mean.den _).mono ?_;rintro e v_1 ⟨rfl,hb⟩;replace V:=j5 V hb;replace X:=Lh (X.out.below hb X.out.lt);clear hb k0 k1 k2 k3 k4 k5 k6 kw y0 y1 y2 y3 y4 y5 y6 yz;obtain ⟨y0,y1,y2,y3,y4,y5,y6,yz⟩:=bJ X.out;obtain ⟨k0,k1,k2,k3,k4,k5,k6,kw⟩:=iW.out _ V.out;cases q4:Sx.bL.fine y.mean with
       | false=>
        have HF:=Lh (N2.out _ _ Hy.out (by unfold Sx.dW;rw[Q0.out,Q1.out,Q2.out,Q3.out,q4];simp));go_wp2_with fail;go_ret;exact ⟨aj HF.out.symm,HB0.out.trans (V.out.mono HB0.out.size)⟩
       | true=>
       have Q4:=Lh q4;clear q4
       by_cases h64:64 < nq
       ·have HF:=Lh (N2.out _ _ Hy.out (by unfold Sx.dW;rw[Q0.out,Q1.out,Q2.out,Q3.out,Q4.out,←NW.out];simp;omega));go_wp2_with fail;go_ret;exact ⟨aj HF.out.symm,HB0.out.trans (V.out.mono HB0.out.size)⟩
       have NR:=Lh (fun (k:Nat) z (h:y.reqs[k]?=some z) (hb:Sx.fG z=false)=>(N2.out _ _ Hy.out (by unfold Sx.dW;rw[jf h hb];simp):R=false));obtain ⟨bx,hbx⟩:∃ b,b=wr.heap.size:=⟨_,rfl⟩
       rw[←hbx] at X;obtain ⟨g6,rfl⟩:∃ g6,g6=gk:=⟨gk,rfl⟩
       go_wp2_with fail;simp only[←hbx];clear hbx k0 k1 k2 k3 k4 k5 k6 kw y0 y1 y2 y3 y4 y5 y6 yz
       go_loopg [8] nq (fun gk v8 wr=>∃ k:Nat,v8 = .int .i64 k∧k+gk=nq∧Hid (∀ (j:Nat) z,j < k→y.reqs[j]?=some z→Sx.fG z=true)∧Hid (Below W.heap.size W wr)∧Hid (aC wr bx 78 #[.string (Lx.bs y.name),.int .i64 y.number,.int .i64 y.uses,.int .i64 y.gD,.int .i64 y.mean.num,.int .i64 y.mean.den,.slice AQ nq cQ]))
       case atStart=>exact ⟨0,rfl,by omega,Lh nR,V,X⟩
       case round=>
        obtain ⟨k,rfl,hk,Vn,Hb,X⟩:=hrel;have Bl:=Lh (HB0.out.trans (Hb.out.mono HB0.out.size));obtain ⟨y0,y1,y2,y3,y4,y5,y6,yz⟩:=bJ X.out
        by_cases hlk:k < nq
        ·obtain ⟨z,hz⟩:∃ z,y.reqs[k]?=some z:=⟨_,List.getElem?_eq_getElem (by have:=NW.out;omega)⟩
         have Hz:=Lh hz;obtain ⟨bf,of,cf,rfl,BH,hrf,hcf⟩:=QT.out.at_ k _ hz;obtain ⟨A8,c8,B8,d8,rfl,hzl,h8,h9⟩:=hrf;obtain ⟨nn,hnn⟩:∃ n,n=z.names.length:=⟨_,rfl⟩
         obtain ⟨nf,hnf⟩:∃ n,n=z.froms.length:=⟨_,rfl⟩
         have hz8:=h8.len;have hz9:=h9.len;rw[←hnn] at hcf hz8;rw[←hnf] at hcf hz9;have EG:=Lh hnn;have Tf:=Lh hnf;have R8:=Lh h8;have R9:=Lh h9;clear hnn hnf h8 h9;have g0:=(Bl.out.cell (p:=⟨bf,_,none⟩) BH).trans (hcf 0 _ rfl);have g1:=(Bl.out.cell (p:=⟨bf,_,none⟩) BH).trans (hcf 1 _ rfl);have g2:=(Bl.out.cell (p:=⟨bf,_,none⟩) BH).trans (hcf 2 _ rfl);have g3:=(Bl.out.cell (p:=⟨bf,_,none⟩) BH).trans (hcf 3 _ rfl);have g4:=(Bl.out.cell (p:=⟨bf,_,none⟩) BH).trans (hcf 4 _ rfl);have g5:=(Bl.out.cell (p:=⟨bf,_,none⟩) BH).trans (hcf 5 _ rfl)
         try simp only [Nat.add_zero,bB,aT] at g0 g1 g2 g3 g4 g5
         clear hcf hz;obtain ⟨v,hv⟩:∃ V,V=wr.alloc (.cells #[.string (Lx.bs z.name),.int .i64 z.aU,.int .i64 z.gX,.bool z.home,.slice A8 nn c8,.slice B8 nf d8] 108):=⟨_,rfl⟩
         have hb0:Below wr.heap.size wr v:=by rw [hv];exact (Below.refl _ _).alloc (Nat.le_refl _) _
         have e0:aC v wr.heap.size 108 #[.string (Lx.bs z.name),.int .i64 z.aU,.int .i64 z.gX,.bool z.home,.slice A8 nn c8,.slice B8 nf d8]:=by rw [hv];exact aC.new _ _ _
         have V:=j5 Hb hb0;have Z:=Lh e0;replace X:=Lh (X.out.below hb0 X.out.lt);go_upto_region 22 with fail;rw[←hv];obtain ⟨bz,hbz⟩:∃ b,b=wr.heap.size:=⟨_,rfl⟩
         rw[←hbz] at Z ⊢;clear hv hb0 e0 hbz g0 g1 g2 g3 g4 g5 y0 y1 y2 y3 y4 y5 y6 yz;obtain ⟨z0,z1,z2,z3,z4,z5,zz⟩:=aQ Z.out;go_wp2_with fail;refine (rP z.name _ hzl).mono ?_;rintro e w' ⟨rfl,rfl⟩;cases q0:Lx.isName z.name with
         | false=>
          have HF:=Lh (NR.out _ _ Hz.out (by unfold Sx.fG;rw[q0];simp));go_wp2_with fail;go_ret;exact ⟨aj HF.out.symm,HB0.out.trans (V.out.mono HB0.out.size)⟩
         | true=>
         have Q0:=Lh q0;clear q0;go_wp2_with fail;refine (qL z.aU 1 10000 _).mono ?_;rintro e w' ⟨rfl,rfl⟩;cases q1:Sx.dX z.aU 1 10000 with
         | false=>
          have HF:=Lh (NR.out _ _ Hz.out (by unfold Sx.fG;rw[Q0.out,q1];simp));go_wp2_with fail;go_ret;exact ⟨aj HF.out.symm,HB0.out.trans (V.out.mono HB0.out.size)⟩
         | true=>
         have Q1:=Lh q1;clear q1;go_wp2_with fail;refine (qL z.gX 0 12 _).mono ?_;rintro e w' ⟨rfl,rfl⟩;cases q2:Sx.dX z.gX 0 12 with
         | false=>
          have HF:=Lh (NR.out _ _ Hz.out (by unfold Sx.fG;rw[Q0.out,Q1.out,q2];simp));go_wp2_with fail;go_ret;exact ⟨aj HF.out.symm,HB0.out.trans (V.out.mono HB0.out.size)⟩
         | true=>
         have Q2:=Lh q2;clear q2;cases q3:((nn:Int) == 0) with
         | true=>
          have HF:=Lh (NR.out _ _ Hz.out (by have h0:z.names = []:=List.eq_nil_of_length_eq_zero (by have:=EG.out;simp at q3;omega);unfold Sx.fG;rw[h0];simp));go_wp2_with fail;go_ret;exact ⟨aj HF.out.symm,HB0.out.trans (V.out.mono HB0.out.size)⟩
         | false=>
         cases q4:((nn:Int) != (nf:Int)) with
         | true=>
          have HF:=Lh (NR.out _ _ Hz.out (by have h0:(z.names.length == z.froms.length)=false:=by { rw [←EG.out,←Tf.out];simp at q4 ⊢;omega };unfold Sx.fG;rw[h0];simp));go_wp2_with fail;go_ret;exact ⟨aj HF.out.symm,HB0.out.trans (V.out.mono HB0.out.size)⟩
         | false=>
         obtain rfl:nn=nf:=by have:(nn:Int)=nf:=(by simpa using q4);omega
         have HP0:Hid ((Sx.fG z)=(z.names.zip z.froms).all fun p=>Sx.bQ p.1 p.2):=Lh (by have h0:z.names.isEmpty=false:=by { cases h:z.names with | nil=>{ have:=EG.out;rw[h] at this;simp at this;subst this;simp at q3 } | cons _ _=>rfl };unfold Sx.fG;rw[Q0.out,Q1.out,Q2.out,h0,←EG.out,←Tf.out];simp);obtain ⟨g8,rfl⟩:∃ g8,g8=gk:=⟨gk,rfl⟩
         go_wp2_with fail;clear z0 z1 z2 z3 z4 z5 zz
         go_loopg [10] nn (fun gk v10 wr=>∃ m:Nat,v10 = .int .i64 m∧m+gk=nn∧Hid (∀ (j:Nat) p,j < m→(z.names.zip z.froms)[j]?=some p→Sx.bQ p.1 p.2=true)∧Hid (Below v.heap.size v wr))
         case atStart=>exact ⟨0,rfl,by omega,Lh (fun _ _ h=>absurd h (Nat.not_lt_zero _)),Lh (Below.refl _ _)⟩
         case round=>
          obtain ⟨m,rfl,hm,Ham,Hv⟩:=hrel;obtain ⟨z0,z1,z2,z3,z4,z5,zz⟩:=aQ (Z.out.below Hv.out Z.out.lt);have V2:=j5 V Hv.out
          by_cases hlm:m < nn
          ·obtain ⟨s,hs⟩:∃ s,z.names[m]?=some s:=⟨_,List.getElem?_eq_getElem (by have:=EG.out;omega)⟩
           obtain ⟨f,hf⟩:∃ f,z.froms[m]?=some f:=⟨_,List.getElem?_eq_getElem (by have:=Tf.out;omega)⟩
           have Ir:=Lh (show (z.names.zip z.froms)[m]?=some (s,f) by rw [List.getElem?_zip_eq_some];exact ⟨hs,hf⟩);obtain ⟨bk,ok,cs,rfl,gV,⟨rfl,hsl⟩,hck⟩:=R8.out.at_ m s hs;obtain ⟨bl,ol,cl,rfl,kR,hP,hcl⟩:=R9.out.at_ m f hf;unfold lT at hP;subst hP;have Bv:=HB0.out.trans (V2.out.mono HB0.out.size);have Zo:=(Bv.cell (p:=⟨bk,_,none⟩) gV).trans (hck 0 _ rfl);have Zp:=(Bv.cell (p:=⟨bl,_,none⟩) kR).trans (hcl 0 _ rfl);simp only[Nat.add_zero,Nat.mul_one,bB,aT] at Zo Zp;clear hck hcl hs hf Bv;have P0:=fun w=>qC s f w hsl;go_upto_region 27 with fail
           go_cut [206] from 195 to 206 (fun v206 wx=>v206 = .bool (!Sx.bQ s f)∧Hid (Below wr.heap.size wr wx))
           case first=>
            go_region_held_law (fun w':World=>w'.cell? ⟨bz,4,none⟩=some (.slice (some ⟨bk,ok,none⟩) nn c8)∧w'.cell? ⟨bz,5,none⟩=some (.slice (some ⟨bl,ol,none⟩) nn d8)∧w'.cell? ⟨bk,ok+m,none⟩=some (.string (Lx.bs s))∧w'.cell? ⟨bl,ol+m,none⟩=some (.int .i64 f)) (first | exact ⟨z4,z5,Zo,Zp⟩ | go_keep) (first | (go_at_call 136;refine (P0 _).mono ?_;rintro e w5 ⟨rfl,rfl⟩))
            all_goals (try go_wp2_with fail)
            all_goals go_meet
            all_goals exact ⟨rfl,Lh (by first | exact Below.refl _ _ | exact (Below.refl _ _).drew | exact ay (Below.refl _ _) _)⟩
           case rest=>
           obtain ⟨rfl,Hbc⟩:=hcut;have V3:=j5 V2 Hbc.out;have Hv3:=j5 Hv Hbc.out;clear z0 z1 z2 z3 z4 z5 zz P0 Zo Zp;cases qq:Sx.bQ s f with
           | false=>
            have HF:=Lh (NR.out _ _ Hz.out (by rw [HP0.out];exact jf Ir.out qq));go_wp2_with fail;go_ret;exact ⟨aj HF.out.symm,HB0.out.trans (V3.out.mono HB0.out.size)⟩
           | true=>
           go_wp2_with fail
           go_roundg (gk - 1)
           all_goals first
            | omega
            | exact ⟨m+1,by go_num,by omega,Lh (kQ (b:=fun p:List UInt8 × Int=>Sx.bQ p.1 p.2) Ham.out Ir.out qq),Hv3⟩
          ·obtain rfl:m=nn:=by omega
           have HZ:Hid (Sx.fG z=true):=Lh (by rw [HP0.out];exact fA fun j p hj=>Ham.out j p (by have:=EG.out;rw[List.length_zip,Tf.out.symm,←EG.out] at hj;omega));have X2:=Lh (X.out.below Hv.out X.out.lt);go_wp2_with fail
           go_roundg (g8 - 1)
           all_goals first
            | omega
            | exact ⟨k+1,by go_num,by omega,Lh (kQ Vn.out Hz.out HZ.out),V2,X2⟩
        ·obtain rfl:k=nq:=by omega
         have HQ:Hid (Sx.dW y=true):=Lh (by unfold Sx.dW;rw[Q0.out,Q1.out,Q2.out,Q3.out,Q4.out,←NW.out,fA (fun j z hj=>Vn.out j z (by have:=NW.out;omega))];simp;omega);go_wp2_with fail
         go_roundg (g6 - 1)
         all_goals first
          | omega
          | exact ⟨i+1,by go_num,by omega,Lh (kQ dQ.out Hy.out HQ.out),Hb⟩
      ·obtain rfl:i=n2:=by omega
       have HP:Hid (x.aS.all Sx.dW=true):=Lh (fA fun j y hj=>dQ.out j y (by have:=nE.out;omega))
       rename World=>wP
       have BLP:=Hb;clear hi dQ Bl Hb hlt
       as_aux_lemma=>
       go_wp2_with fail;clear k0 k1 k2 k3 k4 k5 k6 kw
       go_loopg [11] (n3+n5) (fun gk v11 wr=>∃ i:Nat,v11 = .int .i64 i∧i+gk=n3+n5∧Hid (∀ (j:Nat) y,j < i→(x.classes++x.aJ)[j]?=some y→Sx.fT y=true)∧Hid (Below W.heap.size W wr))
       case atStart=>exact ⟨0,rfl,by omega,Lh nR,BLP⟩
       case round=>
        obtain ⟨i,rfl,hi,dQ,Hb⟩:=hrel;have Bl:=Lh (HB0.out.trans (Hb.out.mono HB0.out.size));obtain ⟨k0,k1,k2,k3,k4,k5,k6,kw⟩:=iW.out _ Hb.out
        by_cases hlt:i < n3+n5
        ·by_cases h3:i < n3
         ·obtain ⟨y,hy⟩:∃ y,x.classes[i]?=some y:=⟨_,List.getElem?_eq_getElem (by have:=yS.out;omega)⟩
          have Hy:=Lh (show (x.classes++x.aJ)[i]?=some y by rw [List.getElem?_append_left (by have:=yS.out;omega)];exact hy);have HN:=Lh (N3.out _ _ hy);obtain ⟨be,oe,ce,rfl,cO,hre,hce⟩:=R3.out.at_ i _ hy;have hbw:be < wr.heap.size:=Nat.lt_of_lt_of_le cO Bl.out.size;obtain ⟨rfl,hnl⟩:=hre;have g0:=(Bl.out.cell (p:=⟨be,_,none⟩) cO).trans (hce 0 _ rfl);have g1:=(Bl.out.cell (p:=⟨be,_,none⟩) cO).trans (hce 1 _ rfl);have g2:=(Bl.out.cell (p:=⟨be,_,none⟩) cO).trans (hce 2 _ rfl);have g3:=(Bl.out.cell (p:=⟨be,_,none⟩) cO).trans (hce 3 _ rfl)
          try simp only [Nat.add_zero,bB,aT] at g0 g1 g2 g3
          clear hce hy
          as_aux_lemma=>
          obtain ⟨v1,hv1⟩:∃ V,V=wr.alloc (.cells #[.string ⟨#[]⟩,.int .i64 0,.int .i64 0,.int .i64 0] 82):=⟨_,rfl⟩
          have hb1:Below wr.heap.size wr v1:=by rw [hv1];exact (Below.refl _ _).alloc (Nat.le_refl _) _
          have e1:aC v1 wr.heap.size 82 #[.string ⟨#[]⟩,.int .i64 0,.int .i64 0,.int .i64 0]:=by rw [hv1];exact aC.new _ _ _
          obtain ⟨v,hv,ex,-,hbn⟩:=Vw e1 (.string (Lx.bs y.name)) (.int .i64 y.gD) (.int .i64 y.mean.num) (.int .i64 y.mean.den);have V:=Lh (Hb.out.trans ((hbn _ _ hb1 (Nat.le_refl _)).mono Hb.out.size));have X:=Lh ex;have f0:=e1.free 0;have f1:=e1.free 1;have f2:=e1.free 2;have f3:=e1.free 3;have t0:=e1.cell 0;have t1:=e1.cell 1;have t2:=e1.cell 2;have t3:=e1.cell 3;have tz:=e1.lt;simp at t0 t1 t2 t3;go_upto_region 33 with fail;rw[←hv1];obtain ⟨p0,p1,p2,p3,p4,p5,p6,pw⟩:=iW.out _ (Hb.out.trans (hb1.mono Hb.out.size))
          replace g0:=(hb1.cell (p:=⟨be,_,none⟩) hbw).trans g0;replace g1:=(hb1.cell (p:=⟨be,_,none⟩) hbw).trans g1;replace g2:=(hb1.cell (p:=⟨be,_,none⟩) hbw).trans g2;replace g3:=(hb1.cell (p:=⟨be,_,none⟩) hbw).trans g3;clear hv1 k0 k1 k2 k3 k4 k5 k6 kw;go_upto_region 36 with fail;rw[←hv];clear hv hb1 e1 ex hbn f0 f1 f2 f3 t0 t1 t2 t3 tz p0 p1 p2 p3 p4 p5 p6 pw g0 g1 g2 g3;obtain ⟨y0,y1,y2,y3,yz⟩:=fB X.out;obtain ⟨k0,k1,k2,k3,k4,k5,k6,kw⟩:=iW.out _ V.out;go_wp2_with fail;refine (rP y.name _ hnl).mono ?_;rintro e w' ⟨rfl,rfl⟩;cases q0:Lx.isName y.name with
          | false=>
           have HF:=Lh (HN.out (by unfold Sx.fT;rw[q0];simp));go_wp2_with fail;go_ret;exact ⟨aj HF.out.symm,HB0.out.trans (V.out.mono HB0.out.size)⟩
          | true=>
          have Q0:=Lh q0;clear q0;go_wp2_with fail;refine (qL y.gD 0 10000 _).mono ?_;rintro e w' ⟨rfl,rfl⟩;cases q1:Sx.dX y.gD 0 10000 with
          | false=>
           have HF:=Lh (HN.out (by unfold Sx.fT;rw[Q0.out,q1];simp));go_wp2_with fail;go_ret;exact ⟨aj HF.out.symm,HB0.out.trans (V.out.mono HB0.out.size)⟩
          | true=>
          have Q1:=Lh q1;clear q1;go_wp2_with fail;refine (FU y.mean.num y.mean.den _).mono ?_;rintro e v_1 ⟨rfl,hb⟩;replace V:=j5 V hb;replace X:=Lh (X.out.below hb X.out.lt);clear hb k0 k1 k2 k3 k4 k5 k6 kw y0 y1 y2 y3 yz;obtain ⟨y0,y1,y2,y3,yz⟩:=fB X.out;obtain ⟨k0,k1,k2,k3,k4,k5,k6,kw⟩:=iW.out _ V.out;cases q2:Sx.bL.fine y.mean with
          | false=>
           have HF:=Lh (HN.out (by unfold Sx.fT;rw[Q0.out,Q1.out,q2];simp));go_wp2_with fail;go_ret;exact ⟨aj HF.out.symm,HB0.out.trans (V.out.mono HB0.out.size)⟩
          | true=>
          have Q2:=Lh q2;clear q2;go_wp2_with fail
          go_roundg (gk - 1)
          all_goals first
           | omega
           | exact ⟨i+1,by go_num,by omega,Lh (kQ dQ.out Hy.out (by unfold Sx.fT;rw[Q0.out,Q1.out,Q2.out];rfl)),V⟩
         ·obtain ⟨p,rfl⟩:∃ p,i=n3+p:=⟨i - n3,by omega⟩
          have hip:((n3+p:Nat):Int) - (n3:Int)=(p:Int):=by omega
          obtain ⟨y,hy⟩:∃ y,x.aJ[p]?=some y:=⟨_,List.getElem?_eq_getElem (by have:=Mg.out;omega)⟩
          have Hy:=Lh (show (x.classes++x.aJ)[n3+p]?=some y by rw [List.getElem?_append_right (by have:=yS.out;omega),show n3+p - x.classes.length=p by have:=yS.out;omega];exact hy);have HN:=Lh (N5.out _ _ hy);obtain ⟨be,oe,ce,rfl,cO,hre,hce⟩:=R5.out.at_ p _ hy;have hbw:be < wr.heap.size:=Nat.lt_of_lt_of_le cO Bl.out.size;obtain ⟨rfl,hnl⟩:=hre;have g0:=(Bl.out.cell (p:=⟨be,_,none⟩) cO).trans (hce 0 _ rfl);have g1:=(Bl.out.cell (p:=⟨be,_,none⟩) cO).trans (hce 1 _ rfl);have g2:=(Bl.out.cell (p:=⟨be,_,none⟩) cO).trans (hce 2 _ rfl)
          have g3:=(Bl.out.cell (p:=⟨be,_,none⟩) cO).trans (hce 3 _ rfl)
          try simp only [Nat.add_zero,bB,aT] at g0 g1 g2 g3
          clear hce hy
          as_aux_lemma=>
          obtain ⟨v1,hv1⟩:∃ V,V=wr.alloc (.cells #[.string ⟨#[]⟩,.int .i64 0,.int .i64 0,.int .i64 0] 82):=⟨_,rfl⟩
          have hb1:Below wr.heap.size wr v1:=by rw [hv1];exact (Below.refl _ _).alloc (Nat.le_refl _) _
          have e1:aC v1 wr.heap.size 82 #[.string ⟨#[]⟩,.int .i64 0,.int .i64 0,.int .i64 0]:=by rw [hv1];exact aC.new _ _ _
          obtain ⟨v,hv,ex,-,hbn⟩:=Vw e1 (.string (Lx.bs y.name)) (.int .i64 y.gD) (.int .i64 y.mean.num) (.int .i64 y.mean.den);have V:=Lh (Hb.out.trans ((hbn _ _ hb1 (Nat.le_refl _)).mono Hb.out.size));have X:=Lh ex;have f0:=e1.free 0;have f1:=e1.free 1;have f2:=e1.free 2;have f3:=e1.free 3;have t0:=e1.cell 0;have t1:=e1.cell 1;have t2:=e1.cell 2;have t3:=e1.cell 3;have tz:=e1.lt;simp at t0 t1 t2 t3;go_upto_region 33 with fail;rw[←hv1];obtain ⟨p0,p1,p2,p3,p4,p5,p6,pw⟩:=iW.out _ (Hb.out.trans (hb1.mono Hb.out.size))
          replace g0:=(hb1.cell (p:=⟨be,_,none⟩) hbw).trans g0;replace g1:=(hb1.cell (p:=⟨be,_,none⟩) hbw).trans g1;replace g2:=(hb1.cell (p:=⟨be,_,none⟩) hbw).trans g2;replace g3:=(hb1.cell (p:=⟨be,_,none⟩) hbw).trans g3;clear hv1 k0 k1 k2 k3 k4 k5 k6 kw;go_upto_region 36 with fail;rw[←hv];clear hv hb1 e1 ex hbn f0 f1 f2 f3 t0 t1 t2 t3 tz p0 p1 p2 p3 p4 p5 p6 pw g0 g1 g2 g3;obtain ⟨y0,y1,y2,y3,yz⟩:=fB X.out;obtain ⟨k0,k1,k2,k3,k4,k5,k6,kw⟩:=iW.out _ V.out;go_wp2_with fail;refine (rP y.name _ hnl).mono ?_;rintro e w' ⟨rfl,rfl⟩;cases q0:Lx.isName y.name with
          | false=>
           have HF:=Lh (HN.out (by unfold Sx.fT;rw[q0];simp));go_wp2_with fail;go_ret;exact ⟨aj HF.out.symm,HB0.out.trans (V.out.mono HB0.out.size)⟩
          | true=>
          have Q0:=Lh q0;clear q0;go_wp2_with fail;refine (qL y.gD 0 10000 _).mono ?_;rintro e w' ⟨rfl,rfl⟩;cases q1:Sx.dX y.gD 0 10000 with
          | false=>
           have HF:=Lh (HN.out (by unfold Sx.fT;rw[Q0.out,q1];simp));go_wp2_with fail;go_ret;exact ⟨aj HF.out.symm,HB0.out.trans (V.out.mono HB0.out.size)⟩
          | true=>
          have Q1:=Lh q1;clear q1;go_wp2_with fail;refine (FU y.mean.num y.mean.den _).mono ?_;rintro e v_1 ⟨rfl,hb⟩;replace V:=j5 V hb;replace X:=Lh (X.out.below hb X.out.lt);clear hb k0 k1 k2 k3 k4 k5 k6 kw y0 y1 y2 y3 yz;obtain ⟨y0,y1,y2,y3,yz⟩:=fB X.out;obtain ⟨k0,k1,k2,k3,k4,k5,k6,kw⟩:=iW.out _ V.out;cases q2:Sx.bL.fine y.mean with
          | false=>
           have HF:=Lh (HN.out (by unfold Sx.fT;rw[Q0.out,Q1.out,q2];simp));go_wp2_with fail;go_ret;exact ⟨aj HF.out.symm,HB0.out.trans (V.out.mono HB0.out.size)⟩
          | true=>
          have Q2:=Lh q2;clear q2;go_wp2_with fail
          go_roundg (gk - 1)
          all_goals first
           | omega
           | exact ⟨n3+p+1,by go_num,by omega,Lh (kQ dQ.out Hy.out (by unfold Sx.fT;rw[Q0.out,Q1.out,Q2.out];rfl)),V⟩
        ·obtain rfl:i=n3+n5:=by omega
         have HK:Hid ((x.classes++x.aJ).all Sx.fT=true):=Lh (fA fun j y hj=>dQ.out j y (by have:=yS.out;have:=Mg.out;rw[List.length_append] at hj;omega))
         rename World=>wK
         have BLK:=Hb;clear hi dQ Bl Hb hlt
         as_aux_lemma=>
         go_wp2_with fail;clear k0 k1 k2 k3 k4 k5 k6 kw
         go_loopg [13] n4 (fun gk v13 wr=>∃ i:Nat,v13 = .int .i64 i∧i+gk=n4∧Hid (∀ (j:Nat) y,j < i→x.bZ[j]?=some y→Sx.jo y=true)∧Hid (Below W.heap.size W wr))
         case atStart=>exact ⟨0,rfl,by omega,Lh nR,BLK⟩
         case round=>
          obtain ⟨i,rfl,hi,dQ,Hb⟩:=hrel;have Bl:=Lh (HB0.out.trans (Hb.out.mono HB0.out.size));obtain ⟨k0,k1,k2,k3,k4,k5,k6,kw⟩:=iW.out _ Hb.out
          by_cases hlt:i < n4
          ·obtain ⟨y,hy⟩:∃ y,x.bZ[i]?=some y:=⟨_,List.getElem?_eq_getElem (by have:=Mf.out;omega)⟩
           have Hy:=Lh hy;obtain ⟨be,oe,ce,rfl,cO,hre,hce⟩:=R4.out.at_ i _ hy
           as_aux_lemma=>
           obtain ⟨rfl,hnl⟩:=hre;have g0:=(Bl.out.cell (p:=⟨be,_,none⟩) cO).trans (hce 0 _ rfl);have g1:=(Bl.out.cell (p:=⟨be,_,none⟩) cO).trans (hce 1 _ rfl)
           try simp only [Nat.add_zero,bB,aT] at g0 g1
           clear hce hy;go_wp2_with fail;refine (rP y.name _ hnl).mono ?_;rintro e w' ⟨rfl,rfl⟩;cases q0:Lx.isName y.name with
           | false=>
            have HF:=Lh (N4.out _ _ Hy.out (by unfold Sx.jo;rw[q0];simp));go_wp2_with fail;go_ret;exact ⟨aj HF.out.symm,HB0.out.trans (Hb.out.mono HB0.out.size)⟩
           | true=>
           have Q0:=Lh q0;clear q0;go_wp2_with fail;refine (qL y.aU 0 10000 _).mono ?_;rintro e w' ⟨rfl,rfl⟩;cases q1:Sx.dX y.aU 0 10000 with
           | false=>
            have HF:=Lh (N4.out _ _ Hy.out (by unfold Sx.jo;rw[Q0.out,q1];simp));go_wp2_with fail;go_ret;exact ⟨aj HF.out.symm,HB0.out.trans (Hb.out.mono HB0.out.size)⟩
           | true=>
           have Q1:=Lh q1;clear q1;go_wp2_with fail
           go_roundg (gk - 1)
           all_goals first
            | omega
            | exact ⟨i+1,by go_num,by omega,Lh (kQ dQ.out Hy.out (by unfold Sx.jo;rw[Q0.out,Q1.out];rfl)),Hb⟩
          ·obtain rfl:i=n4:=by omega
           have HF:Hid (x.bZ.all Sx.jo=true):=Lh (fA fun j y hj=>dQ.out j y (by have:=Mf.out;omega))
           rename World=>wF
           have BLF:=Hb;clear hi dQ Bl Hb hlt
           as_aux_lemma=>
           go_wp2_with fail;clear k0 k1 k2 k3 k4 k5 k6 kw
           go_loopg [14] n6 (fun gk v14 wr=>∃ i:Nat,v14 = .int .i64 i∧i+gk=n6∧Hid (∀ (j:Nat) y,j < i→x.clauses[j]?=some y→Sx.dL y=true)∧Hid (Below W.heap.size W wr))
           case atStart=>exact ⟨0,rfl,by omega,Lh nR,BLF⟩
           case round=>
            obtain ⟨i,rfl,hi,dQ,Hb⟩:=hrel;have Bl:=Lh (HB0.out.trans (Hb.out.mono HB0.out.size));obtain ⟨k0,k1,k2,k3,k4,k5,k6,kw⟩:=iW.out _ Hb.out
            by_cases hlt:i < n6
            ·obtain ⟨y,hy⟩:∃ y,x.clauses[i]?=some y:=⟨_,List.getElem?_eq_getElem (by have:=Mh.out;omega)⟩
             have Hy:=Lh hy;obtain ⟨be,oe,ce,rfl,cO,hre,hce⟩:=R6.out.at_ i _ hy
             as_aux_lemma=>
             unfold bH at hre;subst hre;have g0:=(Bl.out.cell (p:=⟨be,_,none⟩) cO).trans (hce 0 _ rfl);have g1:=(Bl.out.cell (p:=⟨be,_,none⟩) cO).trans (hce 1 _ rfl);have g2:=(Bl.out.cell (p:=⟨be,_,none⟩) cO).trans (hce 2 _ rfl);have g3:=(Bl.out.cell (p:=⟨be,_,none⟩) cO).trans (hce 3 _ rfl)
             try simp only [Nat.add_zero,aT] at g0 g1 g2 g3
             clear hce hy;obtain ⟨v,hv⟩:∃ V,V=wr.alloc (.cells #[.int .i64 y.kind,.int .i64 y.gH,.int .i64 y.action,.int .i64 y.BD] 90):=⟨_,rfl⟩
             have hb0:Below wr.heap.size wr v:=by rw [hv];exact (Below.refl _ _).alloc (Nat.le_refl _) _
             have e0:aC v wr.heap.size 90 #[.int .i64 y.kind,.int .i64 y.gH,.int .i64 y.action,.int .i64 y.BD]:=by rw [hv];exact aC.new _ _ _
             have V:=j5 Hb hb0;have X:=Lh e0;go_upto_region 47 with fail;rw[←hv];clear hv hb0 e0 g0 g1 g2 g3 k0 k1 k2 k3 k4 k5 k6 kw;obtain ⟨y0,y1,y2,y3,yz⟩:=fB X.out;obtain ⟨k0,k1,k2,k3,k4,k5,k6,kw⟩:=iW.out _ V.out;go_wp2_with fail;refine (qL y.kind 1 5 _).mono ?_;rintro e w' ⟨rfl,rfl⟩;cases q0:Sx.dX y.kind 1 5 with
             | false=>
              have HF:=Lh (N6.out _ _ Hy.out (by unfold Sx.dL;rw[q0];simp));go_wp2_with fail;go_ret;exact ⟨aj HF.out.symm,HB0.out.trans (V.out.mono HB0.out.size)⟩
             | true=>
             have Q0:=Lh q0;clear q0;go_wp2_with fail;refine (qL y.gH 0 2 _).mono ?_;rintro e w' ⟨rfl,rfl⟩;cases q1:Sx.dX y.gH 0 2 with
             | false=>
              have HF:=Lh (N6.out _ _ Hy.out (by unfold Sx.dL;rw[Q0.out,q1];simp));go_wp2_with fail;go_ret;exact ⟨aj HF.out.symm,HB0.out.trans (V.out.mono HB0.out.size)⟩
             | true=>
             have Q1:=Lh q1;clear q1;go_wp2_with fail;refine (qL y.action 1 3 _).mono ?_;rintro e w' ⟨rfl,rfl⟩;cases q2:Sx.dX y.action 1 3 with
             | false=>
              have HF:=Lh (N6.out _ _ Hy.out (by unfold Sx.dL;rw[Q0.out,Q1.out,q2];simp));go_wp2_with fail;go_ret;exact ⟨aj HF.out.symm,HB0.out.trans (V.out.mono HB0.out.size)⟩
             | true=>
             have Q2:=Lh q2;clear q2;go_wp2_with fail;refine (qL y.BD 0 12 _).mono ?_;rintro e w' ⟨rfl,rfl⟩;cases q3:Sx.dX y.BD 0 12 with
             | false=>
              have HF:=Lh (N6.out _ _ Hy.out (by unfold Sx.dL;rw[Q0.out,Q1.out,Q2.out,q3];simp));go_wp2_with fail;go_ret;exact ⟨aj HF.out.symm,HB0.out.trans (V.out.mono HB0.out.size)⟩
             | true=>
             have Q3:=Lh q3;clear q3;go_wp2_with fail
             go_roundg (gk - 1)
             all_goals first
              | omega
              | exact ⟨i+1,by go_num,by omega,Lh (kQ dQ.out Hy.out (by unfold Sx.dL;rw[Q0.out,Q1.out,Q2.out,Q3.out];rfl)),V⟩
            ·obtain rfl:i=n6:=by omega
             have HL:Hid (x.clauses.all Sx.dL=true):=Lh (fA fun j y hj=>dQ.out j y (by have:=Mh.out;omega))
             rename World=>wL
             have BLL:=Hb;clear hi dQ Bl Hb hlt
             as_aux_lemma=>
             go_wp2_with fail;clear k0 k1 k2 k3 k4 k5 k6 kw;have HT:Hid (R=true):=Lh (by
              have hk:=HK.out;rw[List.all_append,Bool.and_eq_true] at hk;rw[HR.out];unfold Sx.eX;rw[HC.out,HS.out,HP.out,hk.1,HF.out,hk.2,HL.out];rfl)
             go_ret;exact ⟨aj HT.out.symm,HB0.out.trans (BLL.out.mono HB0.out.size)⟩
end Go.Proofs.YtjonaidancomgaaGreatDoor
