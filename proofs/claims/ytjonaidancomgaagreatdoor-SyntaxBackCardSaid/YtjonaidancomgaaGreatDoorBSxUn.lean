/- Parts of the proof, joined into one text: SxUn. -/
import Derived.Test.YtjonaidancomgaaGreatDoorBSxUnR
import Derived.Test.YtjonaidancomgaaGreatDoorBSxRok
import Derived.Test.YtjonaidancomgaaGreatDoorBSxRdB
import Derived.Test.YtjonaidancomgaaGreatDoorBSxDefsD
import Derived.Test.YtjonaidancomgaaGreatDoorBSxTakeM
import Derived.Deep.CutRange

namespace Go.Proofs.YtjonaidancomgaaGreatDoor
open Go.RowKit

def UnCat (x:Sx.Cat) (w:World) (e:Ending) (w':World):Prop:=Below w.heap.size w w'∧∃ cs,e = .returned (.agg cs.toArray)∧CatAt w' (Old w') x.un cs
set_option maxRecDepth 20000 in
set_option maxHeartbeats 16000000 in
theorem rUn (x:Sx.Cat) (hk:Sx.catOk x=true) (h0:x.courses.length≤60000) (h1:x.same.length≤60000) (h2:x.progs.length≤60000) (h3:∀ p∈x.progs,∀ q∈p.reqs,q.froms.length≤60000) (cs:List Value) (w:World) (hat:CatAt w (Old w) x cs) :
  Calls Tryz.prog 25 #[.agg cs.toArray] w (UnCat x w):=by
 obtain ⟨l0,l1,l2,l3,l4,l5,l6⟩:=x
 obtain ⟨A0,c0,A1,c1,A2,c2,A3,c3,A4,c4,A5,c5,A6,c6,rfl,r0,r1,r2,r3,r4,r5,r6⟩:=hat
 obtain ⟨n0,hn0⟩:∃ n,n=l0.length:=⟨_,rfl⟩
 obtain ⟨n1,hn1⟩:∃ n,n=l1.length:=⟨_,rfl⟩
 obtain ⟨n2,hn2⟩:∃ n,n=l2.length:=⟨_,rfl⟩
 obtain ⟨n3,hn3⟩:∃ n,n=l3.length:=⟨_,rfl⟩
 obtain ⟨n4,hn4⟩:∃ n,n=l4.length:=⟨_,rfl⟩
 obtain ⟨n5,hn5⟩:∃ n,n=l5.length:=⟨_,rfl⟩
 obtain ⟨n6,hn6⟩:∃ n,n=l6.length:=⟨_,rfl⟩
 dsimp only at h0 h1 h2 h3 ⊢
 rw[←hn0,←hn1,←hn2,←hn3,←hn4,←hn5,←hn6]
 rw[←hn0] at h0;rw[←hn1] at h1;rw[←hn2] at h2
 unfold Sx.catOk at hk
 simp only[Bool.and_eq_true,List.all_eq_true] at hk
 obtain ⟨⟨⟨⟨⟨⟨q0,q1⟩,q2⟩,-⟩,-⟩,-⟩,-⟩:=hk
 obtain ⟨i0,hi0,hz0,hz1,hz2⟩:=info_parts Tryz.infoCourse
 obtain ⟨W1,hW1⟩:∃ W1,W1=w.alloc (.cells #[.slice A0 n0 c0,.slice A1 n1 c1,.slice A2 n2 c2,.slice A3 n3 c3,.slice A4 n4 c4,.slice A5 n5 c5,.slice A6 n6 c6] 30):=⟨_,rfl⟩
 obtain ⟨W2,hW2⟩:∃ W2,W2=W1.alloc (.cells #[.slice none 0 0,.slice none 0 0,.slice none 0 0,.slice none 0 0,.slice none 0 0,.slice none 0 0,.slice none 0 0] 30):=⟨_,rfl⟩
 obtain ⟨W3,hW3⟩:∃ W3,W3=W2.alloc (.cells #[.slice none 0 0,.slice none 0 0,.slice none 0 0,.slice A3 n3 c3,.slice A4 n4 c4,.slice A5 n5 c5,.slice A6 n6 c6] 30):=⟨_,rfl⟩
 have hs1:W1.heap.size=w.heap.size+1:=by rw [hW1];simp
 have hs2:W2.heap.size=w.heap.size+2:=by rw [hW2];simp[hs1]
 have hs3:W3.heap.size=w.heap.size+3:=by rw [hW3];simp[hs2]
 have hb1:Below w.heap.size w W1:=by rw [hW1];exact (Below.refl _ _).alloc (Nat.le_refl _) _
 have hb12:Below W1.heap.size W1 W2:=by rw [hW2];exact (Below.refl _ _).alloc (Nat.le_refl _) _
 have hb23:Below W2.heap.size W2 W3:=by rw [hW3];exact (Below.refl _ _).alloc (Nat.le_refl _) _
 have hb3:Below w.heap.size w W3:=(hb1.trans (hb12.mono (by omega))).trans (hb23.mono (by omega))
 have hp1:Blk W1 w.heap.size 30 #[.slice A0 n0 c0,.slice A1 n1 c1,.slice A2 n2 c2,.slice A3 n3 c3,.slice A4 n4 c4,.slice A5 n5 c5,.slice A6 n6 c6]:=by rw [hW1];exact Blk.new _ _ _
 have hp:Blk W3 w.heap.size 30 #[.slice A0 n0 c0,.slice A1 n1 c1,.slice A2 n2 c2,.slice A3 n3 c3,.slice A4 n4 c4,.slice A5 n5 c5,.slice A6 n6 c6]:=(hp1.below hb12 hp1.lt).below hb23 (by omega)
 have hq2:Blk W2 (w.heap.size+1) 30 #[.slice none 0 0,.slice none 0 0,.slice none 0 0,.slice none 0 0,.slice none 0 0,.slice none 0 0,.slice none 0 0]:=by rw [←hs1,hW2];exact Blk.new _ _ _
 have hq:Blk W3 (w.heap.size+1) 30 #[.slice none 0 0,.slice none 0 0,.slice none 0 0,.slice none 0 0,.slice none 0 0,.slice none 0 0,.slice none 0 0]:=hq2.below hb23 (by omega)
 have hx:Blk W3 (w.heap.size+2) 30 #[.slice none 0 0,.slice none 0 0,.slice none 0 0,.slice A3 n3 c3,.slice A4 n4 c4,.slice A5 n5 c5,.slice A6 n6 c6]:=by rw [←hs2,hW3];exact Blk.new _ _ _
 obtain ⟨y0,y1,y2,y3,y4,y5,y6,zz⟩:=cells7 hp1
 have Hp:=Lh hp;have Hq:=Lh hq;have Hx:=Lh hx;have HB3:=Lh hb3;have H3:=Lh h3
 have R0:=Lh r0;have Hn0:=Lh hn0;have R1:=Lh r1;have Hn1:=Lh hn1;have R2:=Lh r2;have Hn2:=Lh hn2;have R3:=Lh r3;have Hn3:=Lh hn3;have R4:=Lh r4;have Hn4:=Lh hn4;have R5:=Lh r5;have Hn5:=Lh hn5;have R6:=Lh r6;have Hn6:=Lh hn6;have Q0:=Lh q0;have Q1:=Lh q1;have Q2:=Lh q2
 clear hp1 hp hq2 hq hx hb1 hb12 hb23 hb3 h3 r0 hn0 r1 hn1 r2 hn2 r3 hn3 r4 hn4 r5 hn5 r6 hn6 q0 q1 q2
 go_enter Tryz.func25,Tryz.ntmps25
 go_upto_region 2 with fail
 rw[←hW1,←hW2,←hW3]
 obtain ⟨px,hpx⟩:∃ px,px=w.heap.size+1+1:=⟨_,rfl⟩
 have hpx2:px=w.heap.size+2:=by omega
 rw[←hpx2] at Hx
 rw[←hpx]
 have HPX:=Lh hpx2
 clear hW1 hW2 hW3 y0 y1 y2 y3 y4 y5 y6 hs1 hs2 hpx hpx2 zz
 have hG0:Hid (GRow w.heap.size (w.heap.size+3) 58 16 CourseAt ((l0.take 0).map Sx.Course.un) [] (.slice none 0 0) W3):=Lh GRow.start
 go_wp2_with fail
 go_loopg [4] n0 (fun gk v4 wr=>∃ (i:Nat) (css:List (List Value)) (rA:Option Addr) (rc:Nat),v4 = .int .i64 i∧i+gk=n0∧Hid (GRow w.heap.size (w.heap.size+3) 58 16 CourseAt ((l0.take i).map Sx.Course.un) css (.slice rA i rc) wr)∧Hid (FrG px W3 wr)∧Hid (Blk wr px 30 #[.slice rA i rc,.slice none 0 0,.slice none 0 0,.slice A3 n3 c3,.slice A4 n4 c4,.slice A5 n5 c5,.slice A6 n6 c6]))
 case atStart=>exact ⟨0,[],_,_,rfl,by omega,hG0,Lh (FrG.refl _ _),Hx⟩
 case round=>
  obtain ⟨i,css,rA,rc,rfl,hi,HG,HF,HX⟩:=hrel
  have hgr:=HF.out.bel.size
  have hpa:px≤w.heap.size+2:=by have:=HPX.out;omega
  have hpb:w.heap.size+2≤px:=by have:=HPX.out;omega
  obtain ⟨y0,y1,y2,y3,y4,y5,y6,zz⟩:=cells7 (HF.out.blk Hp.out (by omega))
  obtain ⟨x0,x1,x2,x3,x4,x5,x6,zx⟩:=cells7 HX.out
  have xf:=HX.out.free 0
  by_cases hlt:i < n0
  ·obtain ⟨x,hxi⟩:∃ x,l0[i]?=some x:=⟨_,List.getElem?_eq_getElem (by have:=Hn0.out;omega)⟩
   obtain ⟨bk,ok,cs,rfl,hS,hP,hck⟩:=R0.out.at_ i x hxi
   have hq:=Q0.out x (List.mem_of_getElem? hxi)
   unfold Sx.courseOk at hq
   simp only[Bool.and_eq_true] at hq
   have hbk:bk < w.heap.size:=hS
   have hbk2:bk < wr.heap.size:=by omega
   have hkeep:∀ b,Old w b→Old wr b∧∀ j,wr.cell? ⟨b,j,none⟩=w.cell? ⟨b,j,none⟩:=fun b hb=>by
    have hb':b < w.heap.size:=hb
    exact ⟨show b < wr.heap.size by omega,fun j=>(HF.out.cell (b:=b) (by omega) (by omega) j).trans (HB3.out.cell (p:=⟨b,j,none⟩) hb')⟩
   obtain ⟨nm,no,cr,rp,nd,br⟩:=x
   obtain ⟨cn,cb,rfl,hn,hA,hB⟩:=hP
   have hA':=RuleAt.keep hkeep _ _ hA
   have hB':=RuleAt.keep hkeep _ _ hB
   obtain ⟨a0,a1,a2,a3,a4,aA,an,ac,rfl⟩:=form_rule_low hA
   obtain ⟨b0,b1,b2,b3,b4,bA,bn,bc,rfl⟩:=form_rule_low hB
   have k0:=((hkeep bk hS).2 _).trans (hck 0 _ rfl)
   have k1:=((hkeep bk hS).2 _).trans (hck 1 _ rfl)
   have k2:=((hkeep bk hS).2 _).trans (hck 2 _ rfl)
   have k3:=((hkeep bk hS).2 _).trans (hck 3 _ rfl)
   have k4:=((hkeep bk hS).2 _).trans (hck 4 _ rfl)
   have k5:=((hkeep bk hS).2 _).trans (hck 5 _ rfl)
   have k6:=((hkeep bk hS).2 _).trans (hck 6 _ rfl)
   have k7:=((hkeep bk hS).2 _).trans (hck 7 _ rfl)
   have k8:=((hkeep bk hS).2 _).trans (hck 8 _ rfl)
   have k9:=((hkeep bk hS).2 _).trans (hck 9 _ rfl)
   have k10:=((hkeep bk hS).2 _).trans (hck 10 _ rfl)
   have k11:=((hkeep bk hS).2 _).trans (hck 11 _ rfl)
   have k12:=((hkeep bk hS).2 _).trans (hck 12 _ rfl)
   have k13:=((hkeep bk hS).2 _).trans (hck 13 _ rfl)
   have k14:=((hkeep bk hS).2 _).trans (hck 14 _ rfl)
   have k15:=((hkeep bk hS).2 _).trans (hck 15 _ rfl)
   simp only[Nat.add_zero,strV,intV] at k0 k1 k2 k3 k4 k5 k6 k7 k8 k9 k10 k11 k12 k13 k14 k15
   obtain ⟨W5,hW5⟩:∃ W5,W5=wr.alloc (.cells #[.string (Lx.bs nm),.int .i64 no,.int .i64 cr,.int .i64 rp,.int .i64 a0,.int .i64 a1,.string a2,.int .i64 a3,.int .i64 a4,.slice aA an ac,.int .i64 b0,.int .i64 b1,.string b2,.int .i64 b3,.int .i64 b4,.slice bA bn bc] 58):=⟨_,rfl⟩
   have hb5:Below wr.heap.size wr W5:=by rw [hW5];exact (Below.refl _ _).alloc (Nat.le_refl _) _
   have hx5:Blk W5 wr.heap.size 58 #[.string (Lx.bs nm),.int .i64 no,.int .i64 cr,.int .i64 rp,.int .i64 a0,.int .i64 a1,.string a2,.int .i64 a3,.int .i64 a4,.slice aA an ac,.int .i64 b0,.int .i64 b1,.string b2,.int .i64 b3,.int .i64 b4,.slice bA bn bc]:=by rw [hW5];exact Blk.new _ _ _
   have HW5z:W5.heap.size=wr.heap.size+1:=by rw [hW5];simp
   have H1:=Lh (lUnR 16 nd hq.1.2 _ W5 (hA'.old hb5))
   have Hx5:=Lh hx5;have Hb5:=Lh hb5;have HBr:=Lh hB';have Hq2:=Lh hq.2;have Hxi:=Lh hxi;have Hnl:=Lh hn
   obtain ⟨z0,z1,z2,z3,z4,z5,z6,z7,z8,z9,z10,z11,z12,z13,z14,z15,zb⟩:=cells16 hx5
   clear hck hS hA hB hA' hB' hkeep hq hxi hn hx5 hb5
   go_wp2_with fail
   rw[←hW5]
   refine H1.out.mono ?_
   rintro e w6 ⟨hb,cs',rfl,hR⟩
   obtain ⟨e0,e1,e2,e3,e4,eA,en,ec,rfl⟩:=form_rule_low hR
   have hxn:Blk w6 wr.heap.size 58 #[.string (Lx.bs nm),.int .i64 no,.int .i64 cr,.int .i64 rp,.int .i64 a0,.int .i64 a1,.string a2,.int .i64 a3,.int .i64 a4,.slice aA an ac,.int .i64 b0,.int .i64 b1,.string b2,.int .i64 b3,.int .i64 b4,.slice bA bn bc]:=Hx5.out.below hb Hx5.out.lt
   have hbn:Below wr.heap.size wr w6:=Hb5.out.trans (hb.mono Hb5.out.size)
   have g4:=hxn.free 4;have g5:=hxn.free 5;have g6:=hxn.free 6;have g7:=hxn.free 7;have g8:=hxn.free 8;have g9:=hxn.free 9
   obtain ⟨v0,v1,v2,v3,v4,v5,v6,v7,v8,v9,v10,v11,v12,v13,v14,v15,zz6⟩:=cells16 hxn
   obtain ⟨W7,hW7⟩:∃ W,W=((((((w6.setCell ⟨wr.heap.size,4,none⟩ (.int .i64 e0)).setCell ⟨wr.heap.size,5,none⟩ (.int .i64 e1)).setCell ⟨wr.heap.size,6,none⟩ (.string e2)).setCell ⟨wr.heap.size,7,none⟩ (.int .i64 e3)).setCell ⟨wr.heap.size,8,none⟩ (.int .i64 e4)).setCell ⟨wr.heap.size,9,none⟩ (.slice eA en ec)):=⟨_,rfl⟩
   have hxm:Blk W7 wr.heap.size 58 #[.string (Lx.bs nm),.int .i64 no,.int .i64 cr,.int .i64 rp,.int .i64 e0,.int .i64 e1,.string e2,.int .i64 e3,.int .i64 e4,.slice eA en ec,.int .i64 b0,.int .i64 b1,.string b2,.int .i64 b3,.int .i64 b4,.slice bA bn bc]:=by
    have:=((((((hxn.set 4 (.int .i64 e0)).set 5 (.int .i64 e1)).set 6 (.string e2)).set 7 (.int .i64 e3)).set 8 (.int .i64 e4)).set 9 (.slice eA en ec))
    rw[hW7];simpa using this
   have hbm:Below wr.heap.size wr W7:=by rw [hW7];exact (Below.setCell (p:=⟨wr.heap.size,9,none⟩) (Below.setCell (p:=⟨wr.heap.size,8,none⟩) (Below.setCell (p:=⟨wr.heap.size,7,none⟩) (Below.setCell (p:=⟨wr.heap.size,6,none⟩) (Below.setCell (p:=⟨wr.heap.size,5,none⟩) (Below.setCell (p:=⟨wr.heap.size,4,none⟩) hbn (Nat.le_refl _) (.int .i64 e0)) (Nat.le_refl _) (.int .i64 e1)) (Nat.le_refl _) (.string e2)) (Nat.le_refl _) (.int .i64 e3)) (Nat.le_refl _) (.int .i64 e4)) (Nat.le_refl _) (.slice eA en ec))
   have hkm:∀ k,k≠wr.heap.size→W7.heap[k]?=w6.heap[k]?:=fun k hk=>by rw [hW7];exact ((Below.heap_setCell _ ⟨wr.heap.size,9,none⟩ (.slice eA en ec) k hk).trans ((Below.heap_setCell _ ⟨wr.heap.size,8,none⟩ (.int .i64 e4) k hk).trans ((Below.heap_setCell _ ⟨wr.heap.size,7,none⟩ (.int .i64 e3) k hk).trans ((Below.heap_setCell _ ⟨wr.heap.size,6,none⟩ (.string e2) k hk).trans ((Below.heap_setCell _ ⟨wr.heap.size,5,none⟩ (.int .i64 e1) k hk).trans ((Below.heap_setCell _ ⟨wr.heap.size,4,none⟩ (.int .i64 e0) k hk).trans rfl))))))
   have hsm:W7.heap.size=w6.heap.size:=by rw [hW7];simp[World.setCell]
   have hzl:=Hb5.out.size
   have hsb:=hb.size
   have hlt5:=Hx5.out.lt
   have hR7:RuleAt W7 (fun b=>W5.heap.size≤b∧b < W7.heap.size) nd.un [.int .i64 e0,.int .i64 e1,.string e2,.int .i64 e3,.int .i64 e4,.slice eA en ec]:=RuleAt.keep (fun b hb'=>⟨⟨hb'.1,by have:=hb'.2;omega⟩,fun j=>World.cell?_of_block (a:=⟨b,j,none⟩) (hkm b (by have:=hb'.1;omega))⟩) _ _ hR
   have H2:=Lh (lUnR 16 br Hq2.out _ W7 (HBr.out.old hbm))
   have Hx7:=Lh hxm;have Hb7:=Lh hbm;have HR7:=Lh hR7;have HW7:=Lh hW7
   clear hR hxn hbn hxm hbm hkm hsm hzl hsb hlt5 hW7 hR7 hb H1 Hx5 Hb5 z0 z1 z2 z3 z4 z5 z6 z7 z8 z9 z10 z11 z12 z13 z14 z15 k0 k1 k2 k3 k4 k5 k6 k7 k8 k9 k10 k11 k12 k13 k14 k15
   go_upto_region 7 with fail
   rw[←HW7.out]
   obtain ⟨z0,z1,z2,z3,z4,z5,z6,z7,z8,z9,z10,z11,z12,z13,z14,z15,zc⟩:=cells16 Hx7.out
   clear g4 g5 g6 g7 g8 g9 v0 v1 v2 v3 v4 v5 v6 v7 v8 v9 v10 v11 v12 v13 v14 v15
   go_wp2_with fail
   refine H2.out.mono ?_
   rintro e w8 ⟨hb,cs',rfl,hR⟩
   obtain ⟨f0,f1,f2,f3,f4,fA,fn,fc,rfl⟩:=form_rule_low hR
   have hxn:Blk w8 wr.heap.size 58 #[.string (Lx.bs nm),.int .i64 no,.int .i64 cr,.int .i64 rp,.int .i64 e0,.int .i64 e1,.string e2,.int .i64 e3,.int .i64 e4,.slice eA en ec,.int .i64 b0,.int .i64 b1,.string b2,.int .i64 b3,.int .i64 b4,.slice bA bn bc]:=Hx7.out.below hb Hx7.out.lt
   have hbn:Below wr.heap.size wr w8:=Hb7.out.trans (hb.mono Hb7.out.size)
   have g10:=hxn.free 10;have g11:=hxn.free 11;have g12:=hxn.free 12;have g13:=hxn.free 13;have g14:=hxn.free 14;have g15:=hxn.free 15
   obtain ⟨v0,v1,v2,v3,v4,v5,v6,v7,v8,v9,v10,v11,v12,v13,v14,v15,zz8⟩:=cells16 hxn
   obtain ⟨W9,hW9⟩:∃ W,W=((((((w8.setCell ⟨wr.heap.size,10,none⟩ (.int .i64 f0)).setCell ⟨wr.heap.size,11,none⟩ (.int .i64 f1)).setCell ⟨wr.heap.size,12,none⟩ (.string f2)).setCell ⟨wr.heap.size,13,none⟩ (.int .i64 f3)).setCell ⟨wr.heap.size,14,none⟩ (.int .i64 f4)).setCell ⟨wr.heap.size,15,none⟩ (.slice fA fn fc)):=⟨_,rfl⟩
   have hxm:Blk W9 wr.heap.size 58 #[.string (Lx.bs nm),.int .i64 no,.int .i64 cr,.int .i64 rp,.int .i64 e0,.int .i64 e1,.string e2,.int .i64 e3,.int .i64 e4,.slice eA en ec,.int .i64 f0,.int .i64 f1,.string f2,.int .i64 f3,.int .i64 f4,.slice fA fn fc]:=by
    have:=((((((hxn.set 10 (.int .i64 f0)).set 11 (.int .i64 f1)).set 12 (.string f2)).set 13 (.int .i64 f3)).set 14 (.int .i64 f4)).set 15 (.slice fA fn fc))
    rw[hW9];simpa using this
   have hbm:Below wr.heap.size wr W9:=by rw [hW9];exact (Below.setCell (p:=⟨wr.heap.size,15,none⟩) (Below.setCell (p:=⟨wr.heap.size,14,none⟩) (Below.setCell (p:=⟨wr.heap.size,13,none⟩) (Below.setCell (p:=⟨wr.heap.size,12,none⟩) (Below.setCell (p:=⟨wr.heap.size,11,none⟩) (Below.setCell (p:=⟨wr.heap.size,10,none⟩) hbn (Nat.le_refl _) (.int .i64 f0)) (Nat.le_refl _) (.int .i64 f1)) (Nat.le_refl _) (.string f2)) (Nat.le_refl _) (.int .i64 f3)) (Nat.le_refl _) (.int .i64 f4)) (Nat.le_refl _) (.slice fA fn fc))
   have hkm:∀ k,k≠wr.heap.size→W9.heap[k]?=w8.heap[k]?:=fun k hk=>by rw [hW9];exact ((Below.heap_setCell _ ⟨wr.heap.size,15,none⟩ (.slice fA fn fc) k hk).trans ((Below.heap_setCell _ ⟨wr.heap.size,14,none⟩ (.int .i64 f4) k hk).trans ((Below.heap_setCell _ ⟨wr.heap.size,13,none⟩ (.int .i64 f3) k hk).trans ((Below.heap_setCell _ ⟨wr.heap.size,12,none⟩ (.string f2) k hk).trans ((Below.heap_setCell _ ⟨wr.heap.size,11,none⟩ (.int .i64 f1) k hk).trans ((Below.heap_setCell _ ⟨wr.heap.size,10,none⟩ (.int .i64 f0) k hk).trans rfl))))))
   have hsm:W9.heap.size=w8.heap.size:=by rw [hW9];simp[World.setCell]
   have hzl:=Hb7.out.size
   have hsb:=hb.size
   have hlt5:=Hx7.out.lt
   have hR9:RuleAt W9 (fun b=>W7.heap.size≤b∧b < W9.heap.size) br.un [.int .i64 f0,.int .i64 f1,.string f2,.int .i64 f3,.int .i64 f4,.slice fA fn fc]:=RuleAt.keep (fun b hb'=>⟨⟨hb'.1,by have:=hb'.2;omega⟩,fun j=>World.cell?_of_block (a:=⟨b,j,none⟩) (hkm b (by have:=hb'.1;omega))⟩) _ _ hR
   have hR79:RuleAt W9 (fun b=>wr.heap.size < b∧b < W9.heap.size) nd.un [.int .i64 e0,.int .i64 e1,.string e2,.int .i64 e3,.int .i64 e4,.slice eA en ec]:=RuleAt.keep (fun b hb'=>⟨⟨by have:=hb'.1;omega,by have:=hb'.2;omega⟩,fun j=>(World.cell?_of_block (a:=⟨b,j,none⟩) (hkm b (by have:=hb'.1;omega))).trans (hb.cell (p:=⟨b,j,none⟩) hb'.2)⟩) _ _ HR7.out
   have Hx9:=Lh hxm;have Hb9:=Lh hbm;have HR9:=Lh hR9;have HR79:=Lh hR79;have HW9:=Lh hW9
   clear hR hxn hbn hxm hbm hkm hsm hzl hsb hW9 hR9 hR79 hb H2 Hb7 z0 z1 z2 z3 z4 z5 z6 z7 z8 z9 z10 z11 z12 z13 z14 z15
   go_upto_region 8 with fail
   rw[←HW9.out]
   obtain ⟨z0,z1,z2,z3,z4,z5,z6,z7,z8,z9,z10,z11,z12,z13,z14,z15,zd⟩:=cells16 Hx9.out
   clear g10 g11 g12 g13 g14 g15 v0 v1 v2 v3 v4 v5 v6 v7 v8 v9 v10 v11 v12 v13 v14 v15
   clear x0 x1 x2 x3 x4 x5 x6 xf zx
   have hX9:=HX.out.below Hb9.out HX.out.lt
   obtain ⟨x0,x1,x2,x3,x4,x5,x6,zx⟩:=cells7 hX9
   obtain ⟨V6,hV6⟩:∃ V6,V6=W9.alloc (.cells #[.string (Lx.bs nm),.int .i64 no,.int .i64 cr,.int .i64 rp,.int .i64 e0,.int .i64 e1,.string e2,.int .i64 e3,.int .i64 e4,.slice eA en ec,.int .i64 f0,.int .i64 f1,.string f2,.int .i64 f3,.int .i64 f4,.slice fA fn fc] 58):=⟨_,rfl⟩
   have hb6:Below W9.heap.size W9 V6:=by rw [hV6];exact (Below.refl _ _).alloc (Nat.le_refl _) _
   have hx6:Blk V6 W9.heap.size 58 #[.string (Lx.bs nm),.int .i64 no,.int .i64 cr,.int .i64 rp,.int .i64 e0,.int .i64 e1,.string e2,.int .i64 e3,.int .i64 e4,.slice eA en ec,.int .i64 f0,.int .i64 f1,.string f2,.int .i64 f3,.int .i64 f4,.slice fA fn fc]:=by rw [hV6];exact Blk.new _ _ _
   have hs9:=Hb9.out.size
   have hs6:=hb6.size
   have h79:=Hx7.out.lt
   have hown0:=fun z hz=>own_lt (b:=z) HG.out.own hz
   have hC6:CourseAt V6 (GS w.heap.size (w.heap.size+3) (.slice rA i rc) V6) (Sx.Course.un ⟨nm,no,cr,rp,nd,br⟩) [.string (Lx.bs nm),.int .i64 no,.int .i64 cr,.int .i64 rp,.int .i64 e0,.int .i64 e1,.string e2,.int .i64 e3,.int .i64 e4,.slice eA en ec,.int .i64 f0,.int .i64 f1,.string f2,.int .i64 f3,.int .i64 f4,.slice fA fn fc]:=
    ⟨_,_,rfl,Hnl.out,RuleAt.keep (fun b hb=>⟨⟨.inr (by have:=hb.1;omega),Nat.lt_of_lt_of_le hb.2 hs6,fun e=>by have:=hown0 b e;have:=hb.1;omega⟩,fun j=>hb6.cell (p:=⟨b,j,none⟩) hb.2⟩) _ _ HR79.out,RuleAt.keep (fun b hb=>⟨⟨.inr (by have:=hb.1;omega),Nat.lt_of_lt_of_le hb.2 hs6,fun e=>by have:=hown0 b e;have:=hb.1;omega⟩,fun j=>hb6.cell (p:=⟨b,j,none⟩) hb.2⟩) _ _ HR9.out⟩
   have hn5:((l0.take i).map Sx.Course.un).length=i:=by rw [List.length_map,List.length_take];have:=Hn0.out;omega
   have HG6:=Lh ((HG.out.next keep_course Hb9.out).next keep_course hb6)
   have HF6:=Lh (HF.out.trans (FrG.below (Hb9.out.trans (hb6.mono hs9)) (by omega)))
   have HX6:=Lh (hX9.below hb6 hX9.lt)
   have HC6:=Lh hC6;have Hx6:=Lh hx6;have HN5:=Lh hn5;have HO:=Lh hown0
   clear hX9 hb6 hx6 hC6 hn5 hown0
   go_wp2_with (at_builtin;rw[←hV6];refine wpList_append_own_at _ rfl (.tmp 45) (.tmp 47) 23 rfl (w.heap.size+3) 58 i0 _ 16 184 Tryz.underCourse hi0 hz0 hz1 hz2 rfl (by decide) (.slice rA i rc) i css.flatten rfl (by have:=HG6.out.own;rwa [HN5.out] at this) ⟨W9.heap.size,0,none⟩ 1 1 [.string (Lx.bs nm),.int .i64 no,.int .i64 cr,.int .i64 rp,.int .i64 e0,.int .i64 e1,.string e2,.int .i64 e3,.int .i64 e4,.slice eA en ec,.int .i64 f0,.int .i64 f1,.string f2,.int .i64 f3,.int .i64 f4,.slice fA fn fc] rfl rfl (World.news_of_block (cs:=#[.string (Lx.bs nm),.int .i64 no,.int .i64 cr,.int .i64 rp,.int .i64 e0,.int .i64 e1,.string e2,.int .i64 e3,.int .i64 e4,.slice eA en ec,.int .i64 f0,.int .i64 f1,.string f2,.int .i64 f3,.int .i64 f4,.slice fA fn fc]) (t:=58) (fr:=(0,0)) Hx6.out) (by simp [Value.oneCell']) (by unfold maxLen;omega) (by omega) (by omega) ?_;intro v' w10 hown hgrow _ hat;obtain ⟨rB,rd,rfl,-⟩:=own_slice hown;have hno:∀ z,(Value.slice rA i rc).ownBlock=some z→w.heap.size+3≤z:=fun z hz=>own_ge HG6.out.own hz;have HG10:=Lh (HG6.out.grow keep_course HC6.out (by rw [HN5.out];exact hown) hgrow hat);have hX10:=HX6.out.grown hgrow (fun e=>by have:=hno px e;omega);have HF10:=Lh (FrG.mk (Below.grown HF6.out.bel hgrow (by omega) (fun z hz=>by have:=hno z hz;omega)) (fun k hk hn=>(hgrow.block k (by omega) (fun e=>by have:=hno k e.symm;omega)).trans (HF6.out.keep k hk hn)));have xc:=hX10.cell 0;have xf:=hX10.free 0;have xl:=hX10.lt;simp at xc;have HX10:=Lh hX10;clear hown hgrow hat hno hX10)
   go_roundg (gk - 1)
   all_goals first
    | omega
    | exact ⟨i+1,_,rB,rd,by go_num,by omega,Lh (by
      have:=HG10.out.keep (w':=w10.setCell ⟨px,0,none⟩ (.slice rB (i+1) rd)) keep_course (by simp [World.setCell]) (fun k _ hk=>Below.heap_setCell w10 ⟨px,0,none⟩ _ k (show k≠px by omega))
      rw[List.take_add_one,Hxi.out,Option.toList_some,List.map_append]
      exact this),Lh (HF10.out.trans (FrG.set _ _ _ _)),Lh (by have:=HX10.out.set 0 (.slice rB (i+1) rd);simpa using this)⟩
  ·obtain rfl:i=n0:=by omega
   rename World=>wA
   have hl0:(l0.take i).map Sx.Course.un=l0.map Sx.Course.un:=by rw [Hn0.out,List.take_length]
   have HGc:=Lh (show GRow w.heap.size (w.heap.size+3) 58 16 CourseAt (l0.map Sx.Course.un) css (.slice rA i rc) wA by have:=HG.out;rwa [hl0] at this)
   have hG1:Hid (GRow w.heap.size wA.heap.size 71 4 (fun _ _=>PairAt) ((l1.take 0).map Sx.Pair.un) [] (.slice none 0 0) wA):=Lh GRow.start
   clear hl0 HG
   go_wp2_with fail
   go_loopg [6] n1 (fun gk v6 wq=>∃ (j:Nat) (dss:List (List Value)) (rB:Option Addr) (rd:Nat),v6 = .int .i64 j∧j+gk=n1∧Hid (GRow w.heap.size wA.heap.size 71 4 (fun _ _=>PairAt) ((l1.take j).map Sx.Pair.un) dss (.slice rB j rd) wq)∧Hid (FrG px wA wq)∧Hid (Blk wq px 30 #[.slice rA i rc,.slice rB j rd,.slice none 0 0,.slice A3 n3 c3,.slice A4 n4 c4,.slice A5 n5 c5,.slice A6 n6 c6]))
   case atStart=>exact ⟨0,[],_,_,rfl,by omega,hG1,Lh (FrG.refl _ _),HX⟩
   case round=>
    clear x0 x1 x2 x3 x4 x5 x6 xf zx y0 y1 y2 y3 y4 y5 y6 zz
    obtain ⟨j,dss,rB,rd,rfl,hj,HG,HFq,HXq⟩:=hrel
    have hgq:=HFq.out.bel.size
    obtain ⟨y0,y1,y2,y3,y4,y5,y6,zz⟩:=cells7 (HFq.out.blk (HF.out.blk Hp.out (by omega)) (by omega))
    obtain ⟨x0,x1,x2,x3,x4,x5,x6,zx⟩:=cells7 HXq.out
    by_cases hlt2:j < n1
    ·obtain ⟨x,hxi⟩:∃ x,l1[j]?=some x:=⟨_,List.getElem?_eq_getElem (by have:=Hn1.out;omega)⟩
     obtain ⟨bk,ok,cs,rfl,hS,hP,hck⟩:=R1.out.at_ j x hxi
     have hbk:bk < w.heap.size:=hS
     have hbk2:bk < wr.heap.size:=by omega
     have hkeep:∀ m,wr.cell? ⟨bk,m,none⟩=w.cell? ⟨bk,m,none⟩:=fun m=>((HFq.out.cell (b:=bk) (by omega) (by omega) m).trans (HF.out.cell (b:=bk) (by omega) (by omega) m)).trans (HB3.out.cell (p:=⟨bk,m,none⟩) hbk)
     obtain ⟨pa,pb,px0,py0⟩:=x
     obtain ⟨rfl,hla,hlb⟩:=hP
     have k0:=(hkeep _).trans (hck 0 _ rfl)
     have k1:=(hkeep _).trans (hck 1 _ rfl)
     have k2:=(hkeep _).trans (hck 2 _ rfl)
     have k3:=(hkeep _).trans (hck 3 _ rfl)
     simp only[Nat.add_zero,strV,intV] at k0 k1 k2 k3
     obtain ⟨ux,hux⟩:∃ ux,ux=Sx.unref pa px0:=⟨_,rfl⟩
     obtain ⟨uy,huy⟩:∃ uy,uy=Sx.unref pb py0:=⟨_,rfl⟩
     obtain ⟨W5,hW5⟩:∃ W5,W5=wr.alloc (.cells #[.string (Lx.bs pa),.string (Lx.bs pb),.int .i64 px0,.int .i64 py0] 71):=⟨_,rfl⟩
     have hx5:Blk W5 wr.heap.size 71 #[.string (Lx.bs pa),.string (Lx.bs pb),.int .i64 px0,.int .i64 py0]:=by rw [hW5];exact Blk.new _ _ _
     have hb5:Below wr.heap.size wr W5:=by rw [hW5];exact (Below.refl _ _).alloc (Nat.le_refl _) _
     have Hux:=Lh hux;have Huy:=Lh huy;have Hx5:=Lh hx5;have Hb5:=Lh hb5;have Hxi:=Lh hxi;have HLa:=Lh hla;have HLb:=Lh hlb
     have hsa1:((Lx.bs pa).toList == (⟨#[]⟩:ByteArray).toList)=pa.isEmpty:=by rw [ByteArray.toList_eq,ByteArray.toList_eq,Lx.bs_list];cases pa <;> rfl
     have hsa2:(Lx.bs pa).toList.isEmpty=pa.isEmpty:=by rw [ByteArray.toList_eq,Lx.bs_list]
     have hsb1:((Lx.bs pb).toList == (⟨#[]⟩:ByteArray).toList)=pb.isEmpty:=by rw [ByteArray.toList_eq,ByteArray.toList_eq,Lx.bs_list];cases pb <;> rfl
     have hsb2:(Lx.bs pb).toList.isEmpty=pb.isEmpty:=by rw [ByteArray.toList_eq,Lx.bs_list]
     clear hux huy hx5 hb5 hxi hkeep hck hS hla hlb
     go_upto_if 64 with fail
     rw[←hW5]
     clear hW5
     go_cut [] from 50 to 75 (fun wx=>Hid (Blk wx wr.heap.size 71 #[.string (Lx.bs pa),.string (Lx.bs pb),.int .i64 ux,.int .i64 py0])∧Hid (Below wr.heap.size wr wx))
     case first=>
      obtain ⟨t0,t1,t2,t3,tt⟩:=cells4 Hx5.out
      have tf:=Hx5.out.free 2
      cases q:pa.isEmpty with
      | true=>
       go_wp2_with fail
       go_meet
       exact ⟨Lh (by rw [Hux.out,Sx.unref,q,if_pos rfl];exact Hx5.out),Hb5⟩
      | false=>
       go_wp2_with fail
       go_meet
       exact ⟨Lh (by have:=Hx5.out.set 2 (.int .i64 0);rw[Hux.out,Sx.unref,q];simpa using this),Lh (Hb5.out.setCell (Nat.le_refl _) _)⟩
     case rest=>
      clear k0 k1 k2 k3
      obtain ⟨Hx6,Hb6⟩:=hcut
      obtain ⟨z0,z1,z2,z3,zb⟩:=cells4 Hx6.out
      go_upto_if 68 with fail
      go_cut [] from 50 to 75 (fun wx=>Hid (Blk wx wr.heap.size 71 #[.string (Lx.bs pa),.string (Lx.bs pb),.int .i64 ux,.int .i64 uy])∧Hid (Below wr.heap.size wr wx))
      case first=>
       obtain ⟨t0,t1,t2,t3,tt⟩:=cells4 Hx6.out
       have tf:=Hx6.out.free 3
       cases q:pb.isEmpty with
       | true=>
        go_wp2_with fail
        go_meet
        exact ⟨Lh (by rw [Huy.out,Sx.unref,q,if_pos rfl];exact Hx6.out),Hb6⟩
       | false=>
        go_wp2_with fail
        go_meet
        exact ⟨Lh (by have:=Hx6.out.set 3 (.int .i64 0);rw[Huy.out,Sx.unref,q];simpa using this),Lh (Hb6.out.setCell (Nat.le_refl _) _)⟩
      case rest=>
       clear z0 z1 z2 z3 zb
       obtain ⟨Hx7,Hb7⟩:=hcut
       obtain ⟨z0,z1,z2,z3,zb⟩:=cells4 Hx7.out
       clear x0 x1 x2 x3 x4 x5 x6 zx
       obtain ⟨ip,hp0,pz0,pz1,pz2⟩:=info_parts Tryz.infoPairJ
       have hX9:=HXq.out.below Hb7.out HXq.out.lt
       obtain ⟨x0,x1,x2,x3,x4,x5,x6,zx⟩:=cells7 hX9
       obtain ⟨V6,hV6⟩:∃ V6,V6=wc.alloc (.cells #[.string (Lx.bs pa),.string (Lx.bs pb),.int .i64 ux,.int .i64 uy] 71):=⟨_,rfl⟩
       have hb6:Below wc.heap.size wc V6:=by rw [hV6];exact (Below.refl _ _).alloc (Nat.le_refl _) _
       have hx6:Blk V6 wc.heap.size 71 #[.string (Lx.bs pa),.string (Lx.bs pb),.int .i64 ux,.int .i64 uy]:=by rw [hV6];exact Blk.new _ _ _
       have hs9:=Hb7.out.size
       have hs6:=hb6.size
       have hC6:PairAt (Sx.Pair.un ⟨pa,pb,px0,py0⟩) [.string (Lx.bs pa),.string (Lx.bs pb),.int .i64 ux,.int .i64 uy]:=⟨by rw [Hux.out,Huy.out];rfl,HLa.out,HLb.out⟩
       have hn5:((l1.take j).map Sx.Pair.un).length=j:=by rw [List.length_map,List.length_take];have:=Hn1.out;omega
       have HG6:=Lh ((HG.out.next keep_pair Hb7.out).next keep_pair hb6)
       have HF6:=Lh (HFq.out.trans (FrG.below (Hb7.out.trans (hb6.mono hs9)) (by omega)))
       have HX6:=Lh (hX9.below hb6 hX9.lt)
       have HC6:=Lh hC6;have Hx6':=Lh hx6;have HN5:=Lh hn5
       clear hX9 hb6 hx6 hC6 hn5
       go_wp2_with (at_builtin;rw[←hV6];refine wpList_append_own_at _ rfl (.tmp 71) (.tmp 73) 24 rfl wA.heap.size 71 ip _ 4 48 Tryz.underPair hp0 pz0 pz1 pz2 rfl (by decide) (.slice rB j rd) j dss.flatten rfl (by have:=HG6.out.own;rwa [HN5.out] at this) ⟨wc.heap.size,0,none⟩ 1 1 [.string (Lx.bs pa),.string (Lx.bs pb),.int .i64 ux,.int .i64 uy] rfl rfl (World.news_of_block (cs:=#[.string (Lx.bs pa),.string (Lx.bs pb),.int .i64 ux,.int .i64 uy]) (t:=71) (fr:=(0,0)) Hx6'.out) (by simp [Value.oneCell']) (by unfold maxLen;omega) (by omega) (by omega) ?_;intro v' w10 hown hgrow _ hat;obtain ⟨rE,re,rfl,-⟩:=own_slice hown;have hno:∀ z,(Value.slice rB j rd).ownBlock=some z→wA.heap.size≤z:=fun z hz=>own_ge HG6.out.own hz;have HG10:=Lh (HG6.out.grow keep_pair HC6.out (by rw [HN5.out];exact hown) hgrow hat);have hX10:=HX6.out.grown hgrow (fun e=>by have:=hno px e;omega);have HF10:=Lh (FrG.mk (Below.grown HF6.out.bel hgrow (by omega) (fun z hz=>by have:=hno z hz;omega)) (fun k hk hn=>(hgrow.block k (by omega) (fun e=>by have:=hno k e.symm;omega)).trans (HF6.out.keep k hk hn)));have xc:=hX10.cell 1;have xf:=hX10.free 1;have xl:=hX10.lt;simp at xc;have HX10:=Lh hX10;clear hown hgrow hat hno hX10)
       go_roundg (gk - 1)
       all_goals first
        | omega
        | exact ⟨j+1,_,rE,re,by go_num,by omega,Lh (by
          have:=HG10.out.keep (w':=w10.setCell ⟨px,1,none⟩ (.slice rE (j+1) re)) keep_pair (by simp [World.setCell]) (fun k _ hk=>Below.heap_setCell w10 ⟨px,1,none⟩ _ k (show k≠px by omega))
          rw[List.take_add_one,Hxi.out,Option.toList_some,List.map_append]
          exact this),Lh (HF10.out.trans (FrG.set _ _ _ _)),Lh (by have:=HX10.out.set 1 (.slice rE (j+1) re);simpa using this)⟩
    ·obtain rfl:j=n1:=by omega
     rename World=>wB
     have hl1:(l1.take j).map Sx.Pair.un=l1.map Sx.Pair.un:=by rw [Hn1.out,List.take_length]
     have HGs:=Lh (show GRow w.heap.size wA.heap.size 71 4 (fun _ _=>PairAt) (l1.map Sx.Pair.un) dss (.slice rB j rd) wB by have:=HG.out;rwa [hl1] at this)
     have HGc2:=Lh (HGc.out.keep (w':=wB) keep_course HFq.out.bel.size (fun k hk hr=>HFq.out.keep k hk (by omega)))
     have HFB:=Lh (HF.out.trans HFq.out)
     have hG2:Hid (GRow w.heap.size wB.heap.size 78 7 ProgAt ((l2.take 0).map Sx.Prog.un) [] (.slice none 0 0) wB):=Lh GRow.start
     clear hl1 HG HGc HFq HF
     go_wp2_with fail
     go_loopg [8] n2 (fun gk v8 wq=>∃ (m:Nat) (ess:List (List Value)) (rC:Option Addr) (re:Nat),v8 = .int .i64 m∧m+gk=n2∧Hid (GRow w.heap.size wB.heap.size 78 7 ProgAt ((l2.take m).map Sx.Prog.un) ess (.slice rC m re) wq)∧Hid (FrG px wB wq)∧Hid (Blk wq px 30 #[.slice rA i rc,.slice rB j rd,.slice rC m re,.slice A3 n3 c3,.slice A4 n4 c4,.slice A5 n5 c5,.slice A6 n6 c6]))
     case atStart=>exact ⟨0,[],_,_,rfl,by omega,hG2,Lh (FrG.refl _ _),HXq⟩
     case round=>
      clear x0 x1 x2 x3 x4 x5 x6 zx y0 y1 y2 y3 y4 y5 y6 zz
      obtain ⟨m,ess,rC,re,rfl,hm,HG,HFq,HXr⟩:=hrel
      have hgq:=HFq.out.bel.size
      obtain ⟨y0,y1,y2,y3,y4,y5,y6,zz⟩:=cells7 (HFq.out.blk (HFB.out.blk Hp.out (by omega)) (by omega))
      obtain ⟨x0,x1,x2,x3,x4,x5,x6,zx⟩:=cells7 HXr.out
      by_cases hlt3:m < n2
      ·rename World=>wC
       obtain ⟨x,hxi⟩:∃ x,l2[m]?=some x:=⟨_,List.getElem?_eq_getElem (by have:=Hn2.out;omega)⟩
       obtain ⟨bk,ok,cs,rfl,hS,hP,hck⟩:=R2.out.at_ m x hxi
       have hq:=Q2.out x (List.mem_of_getElem? hxi)
       have h3x:=H3.out x (List.mem_of_getElem? hxi)
       unfold Sx.progOk at hq
       simp only[Bool.and_eq_true,List.all_eq_true,decide_eq_true_eq] at hq
       have hsB:=HFB.out.bel.size
       have hbk:bk < w.heap.size:=hS
       have hbk2:bk < wC.heap.size:=by omega
       have hkeep:∀ b,b < w.heap.size→∀ j,wC.cell? ⟨b,j,none⟩=w.cell? ⟨b,j,none⟩:=fun b hb j=>((HFq.out.cell (b:=b) (by omega) (by omega) j).trans (HFB.out.cell (b:=b) (by omega) (by omega) j)).trans (HB3.out.cell (p:=⟨b,j,none⟩) hb)
       obtain ⟨nm,no,us,ea,⟨mn,md⟩,rq⟩:=x
       obtain ⟨AR,cR,rfl,hnl,hRow⟩:=hP
       have k0:=(hkeep bk hbk _).trans (hck 0 _ rfl)
       have k1:=(hkeep bk hbk _).trans (hck 1 _ rfl)
       have k2:=(hkeep bk hbk _).trans (hck 2 _ rfl)
       have k3:=(hkeep bk hbk _).trans (hck 3 _ rfl)
       have k4:=(hkeep bk hbk _).trans (hck 4 _ rfl)
       have k5:=(hkeep bk hbk _).trans (hck 5 _ rfl)
       have k6:=(hkeep bk hbk _).trans (hck 6 _ rfl)
       simp only[Nat.add_zero,strV,intV] at k0 k1 k2 k3 k4 k5 k6
       obtain ⟨nq,hnq⟩:∃ nq,nq=rq.length:=⟨_,rfl⟩
       rw[←hnq] at k6
       have hnq2:nq≤64:=by rw [hnq];exact hq.1.2
       obtain ⟨W5,hW5⟩:∃ W5,W5=wC.alloc (.cells #[.string (Lx.bs nm),.int .i64 no,.int .i64 us,.int .i64 ea,.int .i64 mn,.int .i64 md,.slice AR nq cR] 78):=⟨_,rfl⟩
       obtain ⟨W6,hW6⟩:∃ W6,W6=W5.alloc (.cells #[] 108):=⟨_,rfl⟩
       have hs5:W5.heap.size=wC.heap.size+1:=by rw [hW5];simp
       have hs6:W6.heap.size=wC.heap.size+2:=by rw [hW6];simp[hs5]
       have hb5:Below wC.heap.size wC W5:=by rw [hW5];exact (Below.refl _ _).alloc (Nat.le_refl _) _
       have hb56:Below W5.heap.size W5 W6:=by rw [hW6];exact (Below.refl _ _).alloc (Nat.le_refl _) _
       have hb6:Below wC.heap.size wC W6:=hb5.trans (hb56.mono (by omega))
       have hx5:Blk W5 wC.heap.size 78 #[.string (Lx.bs nm),.int .i64 no,.int .i64 us,.int .i64 ea,.int .i64 mn,.int .i64 md,.slice AR nq cR]:=by rw [hW5];exact Blk.new _ _ _
       have hx6:Blk W6 wC.heap.size 78 #[.string (Lx.bs nm),.int .i64 no,.int .i64 us,.int .i64 ea,.int .i64 mn,.int .i64 md,.slice AR nq cR]:=hx5.below hb56 hx5.lt
       have hG0:GRow w.heap.size (wC.heap.size+1) 108 6 ReqAt ((rq.take 0).map Sx.Req.un) [] (.slice (some ⟨wC.heap.size+1,0,none⟩) 0 0) W6:=by
        have:=GRow.made (lo:=w.heap.size) (base:=wC.heap.size+1) (T:=108) (sz:=6) (P:=ReqAt) (w:=W5) (by omega)
        rw[←hW6,hs5] at this
        exact this
       have hXl:=HXr.out.lt
       have HG0:=Lh hG0;have Hx6:=Lh hx6;have Hb6:=Lh hb6;have Hxi:=Lh hxi;have Hnl:=Lh hnl;have HRow:=Lh hRow;have Hq:=Lh hq.2;have H3x:=Lh h3x;have HK:=Lh hkeep;have Hnq:=Lh hnq
       have HX6:=Lh (HXr.out.below hb6 HXr.out.lt)
       clear hb5 hb56 hb6 hx5 hx6 hG0 hxi hnl hRow hq h3x hkeep hck hS hnq
       go_wp2_with fail
       rw[←hW5,←hW6]
       clear hW5 hW6 k0 k1 k2 k3 k4 k5 k6 x0 x1 x2 x3 x4 x5 x6 zx y0 y1 y2 y3 y4 y5 y6 zz
       obtain ⟨g3,rfl⟩:∃ g3,g3=gk:=⟨gk,rfl⟩
       go_loopg [10,11] nq (fun gl vl vk wq=>∃ (k:Nat) (fss:List (List Value)) (rD:Option Addr) (rf:Nat),vk = .int .i64 k∧vl = .slice rD k rf∧k+gl=nq∧Hid (GRow w.heap.size (wC.heap.size+1) 108 6 ReqAt ((rq.take k).map Sx.Req.un) fss (.slice rD k rf) wq)∧Hid (Below (wC.heap.size+1) W6 wq))
       case atStart=>exact ⟨0,[],_,_,rfl,rfl,by omega,HG0,Lh (Below.refl _ _)⟩
       case round=>
        clear HG0
        rename World=>wD
        obtain ⟨k,fss,rD,rf,rfl,rfl,hk,HG4,HB4⟩:=hrel
        have hg4:=HB4.out.size
        obtain ⟨y0,y1,y2,y3,y4,y5,y6,zz⟩:=cells7 (Hx6.out.below HB4.out (by omega))
        by_cases hlt4:k < nq
        ·obtain ⟨r,hri⟩:∃ r,rq[k]?=some r:=⟨_,List.getElem?_eq_getElem (by have:=Hnq.out;omega)⟩
         obtain ⟨bj,oj,cs,rfl,hS,hP,hck⟩:=HRow.out.at_ k r hri
         have hq:=Hq.out r (List.mem_of_getElem? hri)
         have h3y:=H3x.out r (List.mem_of_getElem? hri)
         unfold Sx.reqOk at hq
         simp only[Bool.and_eq_true,beq_iff_eq] at hq
         have hbj:bj < w.heap.size:=hS
         have hbj2:bj < wD.heap.size:=by omega
         have hkeep:∀ b,b < w.heap.size→∀ j,wD.cell? ⟨b,j,none⟩=w.cell? ⟨b,j,none⟩:=fun b hb j=>((HB4.out.cell (p:=⟨b,j,none⟩) (show b < wC.heap.size+1 by omega)).trans (Hb6.out.cell (p:=⟨b,j,none⟩) (show b < wC.heap.size by omega))).trans (HK.out b hb j)
         obtain ⟨rn,rcr,rg,rh,ns,fs⟩:=r
         obtain ⟨AN,cN,BF,dF,rfl,hrn,hN,hF⟩:=hP
         have hnn:ns.length=fs.length:=hq.1.2
         have j0:=(hkeep bj hbj _).trans (hck 0 _ rfl)
         have j1:=(hkeep bj hbj _).trans (hck 1 _ rfl)
         have j2:=(hkeep bj hbj _).trans (hck 2 _ rfl)
         have j3:=(hkeep bj hbj _).trans (hck 3 _ rfl)
         have j4:=(hkeep bj hbj _).trans (hck 4 _ rfl)
         have j5:=(hkeep bj hbj _).trans (hck 5 _ rfl)
         simp only[Nat.add_zero,strV,intV] at j0 j1 j2 j3 j4 j5
         obtain ⟨nf,hnf⟩:∃ nf,nf=fs.length:=⟨_,rfl⟩
         rw[hnn,←hnf] at j4
         rw[←hnf] at j5
         have hnf2:nf≤60000:=by rw [hnf];exact h3y
         obtain ⟨V5,hV5⟩:∃ V5,V5=wD.alloc (.cells #[.string (Lx.bs rn),.int .i64 rcr,.int .i64 rg,.bool rh,.slice AN nf cN,.slice BF nf dF] 108):=⟨_,rfl⟩
         obtain ⟨V6,hV6⟩:∃ V6,V6=V5.alloc (.cells #[] 3):=⟨_,rfl⟩
         have hs5':V5.heap.size=wD.heap.size+1:=by rw [hV5];simp
         have hs6':V6.heap.size=wD.heap.size+2:=by rw [hV6];simp[hs5']
         have hb5:Below wD.heap.size wD V5:=by rw [hV5];exact (Below.refl _ _).alloc (Nat.le_refl _) _
         have hb56:Below V5.heap.size V5 V6:=by rw [hV6];exact (Below.refl _ _).alloc (Nat.le_refl _) _
         have hb6:Below wD.heap.size wD V6:=hb5.trans (hb56.mono (by omega))
         have hx5:Blk V5 wD.heap.size 108 #[.string (Lx.bs rn),.int .i64 rcr,.int .i64 rg,.bool rh,.slice AN nf cN,.slice BF nf dF]:=by rw [hV5];exact Blk.new _ _ _
         have hx6:Blk V6 wD.heap.size 108 #[.string (Lx.bs rn),.int .i64 rcr,.int .i64 rg,.bool rh,.slice AN nf cN,.slice BF nf dF]:=hx5.below hb56 hx5.lt
         have hG0:GRow w.heap.size (wD.heap.size+1) 3 1 (fun _ _=>OneAt intV) (((ns.zip fs).take 0).map fun p=>Sx.unref p.1 p.2) [] (.slice (some ⟨wD.heap.size+1,0,none⟩) 0 0) V6:=by
          have:=GRow.made (α:=Int) (lo:=w.heap.size) (base:=wD.heap.size+1) (T:=3) (sz:=1) (P:=fun _ _=>OneAt intV) (w:=V5) (by omega)
          rw[←hV6,hs5'] at this
          exact this
         have HG0:=Lh hG0;have Hr6:=Lh hx6;have Hc6:=Lh hb6;have Hri:=Lh hri;have Hrn:=Lh hrn;have HN:=Lh hN;have HF':=Lh hF;have HK4:=Lh hkeep;have Hnf:=Lh hnf;have Hnn:=Lh hnn
         clear hb5 hb56 hb6 hx5 hx6 hG0 hri hrn hN hF hkeep hck hS hnf hnn hq h3y
         go_wp2_with fail
         rw[←hV5,←hV6]
         clear hV5 hV6 j0 j1 j2 j3 j4 j5 y0 y1 y2 y3 y4 y5 y6 zz
         obtain ⟨g4,rfl⟩:∃ g4,g4=gk:=⟨gk,rfl⟩
         go_loopg [13,14] nf (fun gm vf vm wq=>∃ (i:Nat) (iss:List (List Value)) (rE:Option Addr) (rj:Nat),vm = .int .i64 i∧vf = .slice rE i rj∧i+gm=nf∧Hid (GRow w.heap.size (wD.heap.size+1) 3 1 (fun _ _=>OneAt intV) (((ns.zip fs).take i).map fun p=>Sx.unref p.1 p.2) iss (.slice rE i rj) wq)∧Hid (Below (wD.heap.size+1) V6 wq))
         case atStart=>exact ⟨0,[],_,_,rfl,rfl,by omega,HG0,Lh (Below.refl _ _)⟩
         case round=>
          clear HG0
          obtain ⟨i,iss,rE,rj,rfl,rfl,hi5,HG5,HB5⟩:=hrel
          have hg5:=HB5.out.size
          obtain ⟨u0,u1,u2,u3,u4,u5,uz⟩:=cells6 (Hr6.out.below HB5.out (by omega))
          have hnz:(((ns.zip fs).take i).map fun p=>Sx.unref p.1 p.2).length=i:=by rw [List.length_map,List.length_take,List.length_zip];have:=Hnf.out;have:=Hnn.out;omega
          by_cases hlt5:i < nf
          ·obtain ⟨s,hsi⟩:∃ s,ns[i]?=some s:=⟨_,List.getElem?_eq_getElem (by have:=Hnf.out;have:=Hnn.out;omega)⟩
           obtain ⟨f,hfi⟩:∃ f,fs[i]?=some f:=⟨_,List.getElem?_eq_getElem (by have:=Hnf.out;omega)⟩
           have hzip:(ns.zip fs)[i]?=some (s,f):=by rw [List.getElem?_zip_eq_some];exact ⟨hsi,hfi⟩
           obtain ⟨b1,o1,c1,rfl,s1,⟨rfl,-⟩,q1⟩:=HN.out.at_ i s hsi
           obtain ⟨b2,o2,c2,rfl,s2,rfl,q2⟩:=HF'.out.at_ i f hfi
           have s1':b1 < w.heap.size:=s1
           have s2':b2 < w.heap.size:=s2
           have hkeep:∀ b,b < w.heap.size→∀ j,wr.cell? ⟨b,j,none⟩=w.cell? ⟨b,j,none⟩:=fun b hb j=>((HB5.out.cell (p:=⟨b,j,none⟩) (show b < wD.heap.size+1 by omega)).trans (Hc6.out.cell (p:=⟨b,j,none⟩) (show b < wD.heap.size by omega))).trans (HK4.out b hb j)
           have p1:=(hkeep b1 s1' _).trans (q1 0 _ rfl)
           have p2:=(hkeep b2 s2' _).trans (q2 0 _ rfl)
           simp only[Nat.mul_one,Nat.add_zero,strV,intV] at p1 p2
           have b1':b1 < wr.heap.size:=by omega
           have b2':b2 < wr.heap.size:=by omega
           have hs1:((Lx.bs s).toList == (⟨#[]⟩:ByteArray).toList)=s.isEmpty:=by rw [ByteArray.toList_eq,ByteArray.toList_eq,Lx.bs_list];cases s <;> rfl
           have hs2:(Lx.bs s).toList.isEmpty=s.isEmpty:=by rw [ByteArray.toList_eq,Lx.bs_list]
           obtain ⟨ii,hii,iz0,iz1,iz2⟩:=info_parts Tryz.infoIntT
           obtain ⟨uf,huf⟩:∃ uf,uf=Sx.unref s f:=⟨_,rfl⟩
           obtain ⟨V9,hV9⟩:∃ V9,V9=wr.alloc (.cells #[.int .i64 uf] 3):=⟨_,rfl⟩
           have hb9:Below wr.heap.size wr V9:=by rw [hV9];exact (Below.refl _ _).alloc (Nat.le_refl _) _
           have hx9:Blk V9 wr.heap.size 3 #[.int .i64 uf]:=by rw [hV9];exact Blk.new _ _ _
           have hs9:=hb9.size
           have HG9:=Lh (HG5.out.next keep_int hb9);have HB9:=Lh (HB5.out.trans (hb9.mono (by omega)));have Hx9:=Lh hx9;have HN9:=Lh hnz;have Hzip:=Lh hzip
           cases q:s.isEmpty with
           | true=>
            have hfu:uf=f:=by rw [huf,Sx.unref,q,if_pos rfl]
            have Hun:Hid (Sx.unref s f=uf):=Lh huf.symm
            rw[hfu] at hV9 Hx9 Hun
            clear hb9 hx9 hnz hsi hfi hzip q1 q2 s1 s2 hkeep huf hfu
            go_wp2_with (at_builtin;rw[←hV9];refine wpList_append_own_at _ rfl (.tmp 125) (.tmp 131) 106 rfl (wD.heap.size+1) 3 ii _ 1 8 Tryz.underlying106 hii iz0 iz1 iz2 rfl (by decide) (.slice rE i rj) i iss.flatten rfl (by have:=HG9.out.own;rwa [HN9.out] at this) ⟨wr.heap.size,0,none⟩ 1 1 [.int .i64 f] rfl rfl (World.news_of_block (cs:=#[.int .i64 f]) (t:=3) (fr:=(0,0)) Hx9.out) (by simp [Value.oneCell']) (by unfold maxLen;omega) (by omega) (by omega) ?_;intro v' w10 hown hgrow _ hat;obtain ⟨rK,rk,rfl,-⟩:=own_slice hown;have HG10:=Lh (HG9.out.grow keep_int (x:=Sx.unref s f) (cs:=[.int .i64 f]) (by rw [Hun.out];rfl) (by rw [HN9.out];exact hown) hgrow hat);have HB10:=Lh (Below.grown HB9.out hgrow (by omega) (fun z hz=>own_ge HG9.out.own hz));clear hown hgrow hat)
            go_roundg (gk - 1)
            all_goals first
             | omega
             | exact ⟨i+1,_,rK,rk,by go_num,rfl,by omega,Lh (by
               have:=HG10.out
               rw[List.take_add_one,Hzip.out,Option.toList_some,List.map_append]
               exact this),HB10⟩
           | false=>
            have hfu:uf=0:=by rw [huf,Sx.unref,q];rfl
            have Hun:Hid (Sx.unref s f=uf):=Lh huf.symm
            rw[hfu] at hV9 Hx9 Hun
            clear hb9 hx9 hnz hsi hfi hzip q1 q2 s1 s2 hkeep huf hfu
            go_wp2_with (at_builtin;rw[←hV9];refine wpList_append_own_at _ rfl (.tmp 122) (.tmp 123) 106 rfl (wD.heap.size+1) 3 ii _ 1 8 Tryz.underlying106 hii iz0 iz1 iz2 rfl (by decide) (.slice rE i rj) i iss.flatten rfl (by have:=HG9.out.own;rwa [HN9.out] at this) ⟨wr.heap.size,0,none⟩ 1 1 [.int .i64 0] rfl rfl (World.news_of_block (cs:=#[.int .i64 0]) (t:=3) (fr:=(0,0)) Hx9.out) (by simp [Value.oneCell']) (by unfold maxLen;omega) (by omega) (by omega) ?_;intro v' w10 hown hgrow _ hat;obtain ⟨rK,rk,rfl,-⟩:=own_slice hown;have HG10:=Lh (HG9.out.grow keep_int (x:=Sx.unref s f) (cs:=[.int .i64 0]) (by rw [Hun.out];rfl) (by rw [HN9.out];exact hown) hgrow hat);have HB10:=Lh (Below.grown HB9.out hgrow (by omega) (fun z hz=>own_ge HG9.out.own hz));clear hown hgrow hat)
            go_roundg (gk - 1)
            all_goals first
             | omega
             | exact ⟨i+1,_,rK,rk,by go_num,rfl,by omega,Lh (by
               have:=HG10.out
               rw[List.take_add_one,Hzip.out,Option.toList_some,List.map_append]
               exact this),HB10⟩
          ·obtain rfl:i=nf:=by omega
           obtain ⟨ir,hir,rz0,rz1,rz2⟩:=info_parts Tryz.infoReqD
           have hall:(ns.zip fs).take i=ns.zip fs:=List.take_of_length_le (by rw [List.length_zip];have:=Hnf.out;have:=Hnn.out;omega)
           have hnz2:((ns.zip fs).map fun p=>Sx.unref p.1 p.2).length=i:=by rw [hall] at hnz;exact hnz
           have uf5:=(Hr6.out.below HB5.out (by omega)).free 5
           obtain ⟨W7,hW7⟩:∃ W7,W7=wr.setCell ⟨wD.heap.size,5,none⟩ (.slice rE i rj):=⟨_,rfl⟩
           obtain ⟨V8,hV8⟩:∃ V8,V8=W7.alloc (.cells #[.string (Lx.bs rn),.int .i64 rcr,.int .i64 rg,.bool rh,.slice AN i cN,.slice rE i rj] 108):=⟨_,rfl⟩
           have hsz7:W7.heap.size=wr.heap.size:=by rw [hW7];simp[World.setCell]
           have hb7:Below wD.heap.size wD W7:=by rw [hW7];exact (Hc6.out.trans (HB5.out.mono (by omega))).setCell (Nat.le_refl _) _
           have hb78:Below W7.heap.size W7 V8:=by rw [hV8];exact (Below.refl _ _).alloc (Nat.le_refl _) _
           have hb8:Below wD.heap.size wD V8:=hb7.trans (hb78.mono (by omega))
           have hsz8:V8.heap.size=wr.heap.size+1:=by rw [hV8];simp[hsz7]
           have hx8:Blk V8 wr.heap.size 108 #[.string (Lx.bs rn),.int .i64 rcr,.int .i64 rg,.bool rh,.slice AN i cN,.slice rE i rj]:=by rw [←hsz7,hV8];exact Blk.new _ _ _
           have hG8:=((HG5.out.keep (w':=W7) keep_int (by omega) (fun b _ hb=>by rw [hW7];exact Below.heap_setCell wr ⟨wD.heap.size,5,none⟩ _ b (show b≠wD.heap.size by omega))).next keep_int hb78).row keep_int (fun _ _ _ _ h=>by rw [h];rfl) (by rw [hnz];omega)
           rw[hall,hnz2] at hG8
           obtain ⟨A8,c8,e8,hF8⟩:=hG8
           injection e8 with e8 _ e9
           subst e8;subst e9
           have hown0:=fun z hz=>own_lt (b:=z) HG4.out.own hz
           have hown1:=fun z hz=>own_ge (b:=z) HG4.out.own hz
           have hC8:ReqAt V8 (GS w.heap.size (wC.heap.size+1) (.slice rD k rf) V8) (Sx.Req.un ⟨rn,rcr,rg,rh,ns,fs⟩) [.string (Lx.bs rn),.int .i64 rcr,.int .i64 rg,.bool rh,.slice AN i cN,.slice rE i rj]:=
            ⟨AN,cN,rE,rj,by simp only [Sx.Req.un,List.length_map,List.length_zip,strV,intV];rw[Hnn.out,←Hnf.out,Nat.min_self],Hrn.out,
             HN.out.keep (fun b hb=>⟨⟨.inl hb,by have:b < w.heap.size:=hb;omega,fun e=>by have:=hown1 b e;have:b < w.heap.size:=hb;omega⟩,fun j=>(hb8.cell (p:=⟨b,j,none⟩) (show b < wD.heap.size by have:b < w.heap.size:=hb;omega)).trans (HK4.out b hb j)⟩) (fun _ _ _ h=>h),
             hF8.keep (fun b hb=>⟨⟨by have:=hb.1;omega,hb.2,fun e=>by have:=hown0 b e;have:=hown1 b e;have:=hb.1;omega⟩,fun _=>rfl⟩) (fun _ _ _ h=>h)⟩
           have hn5:((rq.take k).map Sx.Req.un).length=k:=by rw [List.length_map,List.length_take];have:=Hnq.out;omega
           have HG8:=Lh (HG4.out.next keep_req hb8);have HB8:=Lh (HB4.out.trans (hb8.mono (by omega)));have HC8:=Lh hC8;have Hx8:=Lh hx8;have HN5:=Lh hn5
           rw[hW7] at hV8
           clear hnz2 hb7 hb78 hb8 hsz7 hx8 hF8 hown0 hown1 hC8 hn5 hall hnz hW7
           go_wp2_with (at_builtin;rw[←hV8];refine wpList_append_own_at _ rfl (.tmp 135) (.tmp 137) 76 rfl (wC.heap.size+1) 108 ir _ 6 88 Tryz.underlying76 hir rz0 rz1 rz2 rfl (by decide) (.slice rD k rf) k fss.flatten rfl (by have:=HG8.out.own;rwa [HN5.out] at this) ⟨wr.heap.size,0,none⟩ 1 1 [.string (Lx.bs rn),.int .i64 rcr,.int .i64 rg,.bool rh,.slice AN i cN,.slice rE i rj] rfl rfl (World.news_of_block (cs:=#[.string (Lx.bs rn),.int .i64 rcr,.int .i64 rg,.bool rh,.slice AN i cN,.slice rE i rj]) (t:=108) (fr:=(0,0)) Hx8.out) (by simp [Value.oneCell']) (by unfold maxLen;omega) (by omega) (by omega) ?_;intro v' w10 hown hgrow _ hat;obtain ⟨rK,rk,rfl,-⟩:=own_slice hown;have HG10:=Lh (HG8.out.grow keep_req HC8.out (by rw [HN5.out];exact hown) hgrow hat);have HB10:=Lh (Below.grown HB8.out hgrow (by omega) (fun z hz=>own_ge HG8.out.own hz));clear hown hgrow hat)
           go_roundg (g4 - 1)
           all_goals first
            | omega
            | exact ⟨k+1,_,rK,rk,by go_num,rfl,by omega,Lh (by
              have:=HG10.out
              rw[List.take_add_one,Hri.out,Option.toList_some,List.map_append]
              exact this),HB10⟩
        ·obtain rfl:k=nq:=by omega
         obtain ⟨ip,hip,pz0,pz1,pz2⟩:=info_parts Tryz.infoProg
         have hall:rq.take k=rq:=by rw [Hnq.out,List.take_length]
         have yf6:=(Hx6.out.below HB4.out (by omega)).free 6
         obtain ⟨W7,hW7⟩:∃ W7,W7=wD.setCell ⟨wC.heap.size,6,none⟩ (.slice rD k rf):=⟨_,rfl⟩
         obtain ⟨V8,hV8⟩:∃ V8,V8=W7.alloc (.cells #[.string (Lx.bs nm),.int .i64 no,.int .i64 us,.int .i64 ea,.int .i64 mn,.int .i64 md,.slice rD k rf] 78):=⟨_,rfl⟩
         have hsz7:W7.heap.size=wD.heap.size:=by rw [hW7];simp[World.setCell]
         have hb7:Below wC.heap.size wC W7:=by rw [hW7];exact (Hb6.out.trans (HB4.out.mono (by omega))).setCell (Nat.le_refl _) _
         have hb78:Below W7.heap.size W7 V8:=by rw [hV8];exact (Below.refl _ _).alloc (Nat.le_refl _) _
         have hb8:Below wC.heap.size wC V8:=hb7.trans (hb78.mono (by omega))
         have hsz8:V8.heap.size=wD.heap.size+1:=by rw [hV8];simp[hsz7]
         have hx8:Blk V8 wD.heap.size 78 #[.string (Lx.bs nm),.int .i64 no,.int .i64 us,.int .i64 ea,.int .i64 mn,.int .i64 md,.slice rD k rf]:=by rw [←hsz7,hV8];exact Blk.new _ _ _
         have hX4:=HX6.out.below HB4.out (by omega)
         have hX8:=HXr.out.below hb8 HXr.out.lt
         obtain ⟨x0,x1,x2,x3,x4,x5,x6,zx⟩:=cells7 hX4
         have hG8:=((HG4.out.keep (w':=W7) keep_req (by omega) (fun b _ hb=>by rw [hW7];exact Below.heap_setCell wD ⟨wC.heap.size,6,none⟩ _ b (show b≠wC.heap.size by omega))).next keep_req hb78).row keep_req (fun _ _ _ _ h=>ReqAt.length h) (by rw [hall,List.length_map,←Hnq.out];omega)
         rw[hall,List.length_map,←Hnq.out] at hG8
         obtain ⟨A8,c8,e8,hF8⟩:=hG8
         injection e8 with e8 _ e9
         subst e8;subst e9
         have hown0:=fun z hz=>own_lt (b:=z) HG.out.own hz
         have hown1:=fun z hz=>own_ge (b:=z) HG.out.own hz
         have hsub:∀ b,(b < w.heap.size∨wC.heap.size+1≤b)∧b < V8.heap.size→GS w.heap.size wB.heap.size (.slice rC m re) V8 b∧∀ j,V8.cell? ⟨b,j,none⟩=V8.cell? ⟨b,j,none⟩:=fun b hb=>⟨⟨by have:=hb.1;omega,hb.2,fun e=>by have:=hown0 b e;have:=hown1 b e;have:=hb.1;omega⟩,fun _=>rfl⟩
         have hC8:ProgAt V8 (GS w.heap.size wB.heap.size (.slice rC m re) V8) (Sx.Prog.un ⟨nm,no,us,ea,⟨mn,md⟩,rq⟩) [.string (Lx.bs nm),.int .i64 no,.int .i64 us,.int .i64 ea,.int .i64 mn,.int .i64 md,.slice rD k rf]:=
          ⟨rD,rf,by simp only [Sx.Prog.un,List.length_map,strV,intV];rw[←Hnq.out],Hnl.out,hF8.keep hsub (fun _ _ _ h=>ReqAt.keep hsub h)⟩
         have hn5:((l2.take m).map Sx.Prog.un).length=m:=by rw [List.length_map,List.length_take];have:=Hn2.out;omega
         have HG8:=Lh (HG.out.next keep_prog hb8);have HF8:=Lh (HFq.out.trans (FrG.below hb8 hXl));have HC8:=Lh hC8;have Hx8:=Lh hx8;have HN5:=Lh hn5;have HX8:=Lh hX8
         rw[hW7] at hV8
         clear hb7 hb78 hb8 hsz7 hx8 hF8 hown0 hown1 hsub hC8 hn5 hall hX4 hX8 hW7
         go_wp2_with (at_builtin;rw[←hV8];refine wpList_append_own_at _ rfl (.tmp 142) (.tmp 144) 25 rfl wB.heap.size 78 ip _ 7 80 Tryz.underProg hip pz0 pz1 pz2 rfl (by decide) (.slice rC m re) m ess.flatten rfl (by have:=HG8.out.own;rwa [HN5.out] at this) ⟨wD.heap.size,0,none⟩ 1 1 [.string (Lx.bs nm),.int .i64 no,.int .i64 us,.int .i64 ea,.int .i64 mn,.int .i64 md,.slice rD k rf] rfl rfl (World.news_of_block (cs:=#[.string (Lx.bs nm),.int .i64 no,.int .i64 us,.int .i64 ea,.int .i64 mn,.int .i64 md,.slice rD k rf]) (t:=78) (fr:=(0,0)) Hx8.out) (by simp [Value.oneCell']) (by unfold maxLen;omega) (by omega) (by omega) ?_;intro v' w10 hown hgrow _ hat;obtain ⟨rK,rk,rfl,-⟩:=own_slice hown;have hno:∀ z,(Value.slice rC m re).ownBlock=some z→wB.heap.size≤z:=fun z hz=>own_ge HG8.out.own hz;have HG10:=Lh (HG8.out.grow keep_prog HC8.out (by rw [HN5.out];exact hown) hgrow hat);have hX10:=HX8.out.grown hgrow (fun e=>by have:=hno px e;omega);have HF10:=Lh (FrG.mk (Below.grown HF8.out.bel hgrow (by omega) (fun z hz=>by have:=hno z hz;omega)) (fun k hk hn=>(hgrow.block k (by omega) (fun e=>by have:=hno k e.symm;omega)).trans (HF8.out.keep k hk hn)));have xc:=hX10.cell 2;have xf:=hX10.free 2;have xl:=hX10.lt;simp at xc;have HX10:=Lh hX10;clear hown hgrow hat hno hX10)
         go_roundg (g3 - 1)
         all_goals first
          | omega
          | exact ⟨m+1,_,rK,rk,by go_num,by omega,Lh (by
            have:=HG10.out.keep (w':=w10.setCell ⟨px,2,none⟩ (.slice rK (m+1) rk)) keep_prog (by simp [World.setCell]) (fun k _ hk=>Below.heap_setCell w10 ⟨px,2,none⟩ _ k (show k≠px by omega))
            rw[List.take_add_one,Hxi.out,Option.toList_some,List.map_append]
            exact this),Lh (HF10.out.trans (FrG.set _ _ _ _)),Lh (by have:=HX10.out.set 2 (.slice rK (m+1) rk);simpa using this)⟩
      ·obtain rfl:m=n2:=by omega
       have hl2:(l2.take m).map Sx.Prog.un=l2.map Sx.Prog.un:=by rw [Hn2.out,List.take_length]
       have hGp:GRow w.heap.size wB.heap.size 78 7 ProgAt (l2.map Sx.Prog.un) ess (.slice rC m re) wr:=by have:=HG.out;rwa [hl2] at this
       have hAB:=HGs.out.own
       have hGs3:=HGs.out.keep (w':=wr) keep_pair HFq.out.bel.size (fun k hk hr=>HFq.out.keep k hk (by omega))
       have hGc3:=HGc2.out.keep (w':=wr) keep_course HFq.out.bel.size (fun k hk hr=>HFq.out.keep k hk (by omega))
       have hFC:=HFB.out.trans HFq.out
       have hq8:=hFC.blk Hq.out (by omega)
       have hb8:Below w.heap.size w wr:=HB3.out.trans (hFC.bel.mono (by omega))
       have f0:=hq8.free 0;have f1:=hq8.free 1;have f2:=hq8.free 2;have f3:=hq8.free 3;have f4:=hq8.free 4;have f5:=hq8.free 5;have f6:=hq8.free 6
       obtain ⟨q0,q1,q2,q3,q4,q5,q6,qq⟩:=cells7 hq8
       obtain ⟨W9,hW9⟩:∃ W9,W9=(((((((wr.setCell ⟨w.heap.size+1,0,none⟩ (.slice rA i rc)).setCell ⟨w.heap.size+1,1,none⟩ (.slice rB j rd)).setCell ⟨w.heap.size+1,2,none⟩ (.slice rC m re)).setCell ⟨w.heap.size+1,3,none⟩ (.slice A3 n3 c3)).setCell ⟨w.heap.size+1,4,none⟩ (.slice A4 n4 c4)).setCell ⟨w.heap.size+1,5,none⟩ (.slice A5 n5 c5)).setCell ⟨w.heap.size+1,6,none⟩ (.slice A6 n6 c6)):=⟨_,rfl⟩
       have hq9:Blk W9 (w.heap.size+1) 30 #[.slice rA i rc,.slice rB j rd,.slice rC m re,.slice A3 n3 c3,.slice A4 n4 c4,.slice A5 n5 c5,.slice A6 n6 c6]:=by
        have:=(((((((hq8.set 0 (.slice rA i rc)).set 1 (.slice rB j rd)).set 2 (.slice rC m re)).set 3 (.slice A3 n3 c3)).set 4 (.slice A4 n4 c4)).set 5 (.slice A5 n5 c5)).set 6 (.slice A6 n6 c6))
        rw[hW9];simpa using this
       have hb9:Below w.heap.size w W9:=by rw [hW9];exact (Below.setCell (p:=⟨w.heap.size+1,6,none⟩) (Below.setCell (p:=⟨w.heap.size+1,5,none⟩) (Below.setCell (p:=⟨w.heap.size+1,4,none⟩) (Below.setCell (p:=⟨w.heap.size+1,3,none⟩) (Below.setCell (p:=⟨w.heap.size+1,2,none⟩) (Below.setCell (p:=⟨w.heap.size+1,1,none⟩) (Below.setCell (p:=⟨w.heap.size+1,0,none⟩) hb8 (Nat.le_succ _) (.slice rA i rc)) (Nat.le_succ _) (.slice rB j rd)) (Nat.le_succ _) (.slice rC m re)) (Nat.le_succ _) (.slice A3 n3 c3)) (Nat.le_succ _) (.slice A4 n4 c4)) (Nat.le_succ _) (.slice A5 n5 c5)) (Nat.le_succ _) (.slice A6 n6 c6))
       have hk9:∀ k,k≠w.heap.size+1→W9.heap[k]?=wr.heap[k]?:=fun k hk=>by rw [hW9];exact ((Below.heap_setCell _ ⟨w.heap.size+1,6,none⟩ (.slice A6 n6 c6) k hk).trans ((Below.heap_setCell _ ⟨w.heap.size+1,5,none⟩ (.slice A5 n5 c5) k hk).trans ((Below.heap_setCell _ ⟨w.heap.size+1,4,none⟩ (.slice A4 n4 c4) k hk).trans ((Below.heap_setCell _ ⟨w.heap.size+1,3,none⟩ (.slice A3 n3 c3) k hk).trans ((Below.heap_setCell _ ⟨w.heap.size+1,2,none⟩ (.slice rC m re) k hk).trans ((Below.heap_setCell _ ⟨w.heap.size+1,1,none⟩ (.slice rB j rd) k hk).trans ((Below.heap_setCell _ ⟨w.heap.size+1,0,none⟩ (.slice rA i rc) k hk).trans rfl)))))))
       have hs9:W9.heap.size=wr.heap.size:=by rw [hW9];simp[World.setCell]
       obtain ⟨a1,b1,e1,g1⟩:=(hGc3.keep keep_course (Nat.le_of_eq hs9.symm) (fun k _ hr=>hk9 k (by omega))).row keep_course (fun _ _ _ _ h=>(one_course h).1) (by rw [List.length_map,←Hn0.out];omega)
       obtain ⟨a2,b2,e2,g2⟩:=(hGs3.keep keep_pair (Nat.le_of_eq hs9.symm) (fun k _ hr=>hk9 k (by omega))).row keep_pair (fun _ _ _ _ h=>(one_pair h).1) (by rw [List.length_map,←Hn1.out];omega)
       obtain ⟨a3,b3,e3,g3⟩:=(hGp.keep keep_prog (Nat.le_of_eq hs9.symm) (fun k _ hr=>hk9 k (by omega))).row keep_prog (fun _ _ _ _ h=>(one_prog h).1) (by rw [List.length_map,←Hn2.out];omega)
       injection e1 with e1 e1b e1c;injection e2 with e2 e2b e2c;injection e3 with e3 e3b e3c
       subst e1;subst e2;subst e3
       have hfin:CatAt W9 (Old W9) (Sx.Cat.un ⟨l0,l1,l2,l3,l4,l5,l6⟩) [.slice rA i rc,.slice rB j rd,.slice rC m re,.slice A3 n3 c3,.slice A4 n4 c4,.slice A5 n5 c5,.slice A6 n6 c6]:=
        ⟨rA,rc,rB,rd,rC,re,A3,c3,A4,c4,A5,c5,A6,c6,by simp only [Sx.Cat.un,List.length_map,←Hn0.out,←Hn1.out,←Hn2.out,←Hn3.out,←Hn4.out,←Hn5.out,←Hn6.out],
         g1.keep (fun b hb=>⟨hb.2,fun _=>rfl⟩) (fun _ _ _ h=>CourseAt.keep (fun b hb=>⟨hb.2,fun _=>rfl⟩) h),g2.keep (fun b hb=>⟨hb.2,fun _=>rfl⟩) (fun _ _ _ h=>h),g3.keep (fun b hb=>⟨hb.2,fun _=>rfl⟩) (fun _ _ _ h=>ProgAt.keep (fun b hb=>⟨hb.2,fun _=>rfl⟩) h),
         R3.out.keep (old_keep hb9) (fun _ _ _ h=>h),R4.out.keep (old_keep hb9) (fun _ _ _ h=>h),R5.out.keep (old_keep hb9) (fun _ _ _ h=>h),R6.out.keep (old_keep hb9) (fun _ _ _ h=>h)⟩
       have Hfin:=Lh hfin;have Hq9:=Lh hq9;have Hb9:=Lh hb9;have HW9:=Lh hW9
       clear e1b e1c e2b e2c e3b e3c hfin hq9 hb9 hW9 hk9 hs9 g1 g2 g3 hGp hAB hGs3 hGc3 hFC hq8 hb8 hl2
       go_wp2_with fail
       rw[←HW9.out]
       obtain ⟨t0,t1,t2,t3,t4,t5,t6,tt⟩:=cells7 Hq9.out
       refine bodyPost_ret (v:=.agg #[.slice rA i rc,.slice rB j rd,.slice rC m re,.slice A3 n3 c3,.slice A4 n4 c4,.slice A5 n5 c5,.slice A6 n6 c6]) (by simp [results,Tryz.results25,go_sem,t0,t1,t2,t3,t4,t5,t6]) rfl ⟨Hb9.out,_,rfl,Hfin.out⟩
end Go.Proofs.YtjonaidancomgaaGreatDoor
