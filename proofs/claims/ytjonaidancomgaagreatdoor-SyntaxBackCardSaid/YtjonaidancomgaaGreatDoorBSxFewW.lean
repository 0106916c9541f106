/- Parts of the proof, joined into one text: SxFewW. -/
import Derived.Test.YtjonaidancomgaaGreatDoorBSxVal
import Derived.Test.YtjonaidancomgaaGreatDoorBSxAll
import Derived.Test.YtjonaidancomgaaGreatDoorBSxPrI
import Derived.Deep.CutRange

namespace Go.Proofs.YtjonaidancomgaaGreatDoor
open Go.RowKit

theorem Sx.cnt_mk (g:Nat) (op co:Int) (nm:List UInt8) (n d:Int) (ks:List Sx.Rule):Sx.cnt (g+1) (.mk op co nm n d ks)=if 300 < ks.length then 300 else Sx.cntL (Sx.cnt g) 1 ks:=rfl
theorem Sx.fewRule_mk (op co:Int) (nm:List UInt8) (n d:Int) (ks:List Sx.Rule):Sx.fewRule (.mk op co nm n d ks)=(decide (Sx.cnt 41 (.mk op co nm n d ks) < 250) && decide (nm.length≤100)):=rfl
def NumPost (n:Int) (w:World) (e:Ending) (w':World):Prop:=e = .returned (.int .i64 n)∧Below w.heap.size w w'
theorem ret_i64 {a b:Int} (h:a=b):Ending.returned (.int .i64 a) = .returned (.int .i64 b):=by rw [h]
set_option maxRecDepth 20000 in
set_option maxHeartbeats 4000000 in
theorem rCount:∀ (g:Nat),g≤41→∀ (d:Int),d=41 - (g:Int)→∀ (r:Sx.Rule) (w:World) (ca:List Value),RuleAt w (Old w) r ca→
  Calls Tryz.prog 47 #[.agg ca.toArray,.int .i64 d] w (NumPost (Sx.cnt g r) w)
 | 0,_,d,hd,r,w,ca,ha=>by
  obtain rfl:d=41:=by omega
  obtain ⟨i0,i1,s2,i3,i4,A5,n5,c5,rfl⟩:=form_rule ha
  rw[show Sx.cnt 0 r=300 from rfl]
  clear ha hd
  go_enter Tryz.func47,Tryz.ntmps47
  go_wp2_with fail
  go_ret
  exact ⟨rfl,(Below.refl _ _).alloc (Nat.le_refl _) _⟩
 | g+1,hg,d,hd,.mk op co nm n x ks,w,ca,ha=>by
  have Hih:=Lh (rCount g (by omega) (d+1) (by omega))
  rw[RuleAt] at ha
  obtain ⟨A,c,rfl,ha2,ha3,ha4⟩:=ha
  have Hka:=Lh ha4
  obtain ⟨R,hR⟩:∃ R,R=Sx.cnt (g+1) (.mk op co nm n x ks):=⟨_,rfl⟩
  rw[←hR]
  rw[Sx.cnt_mk] at hR
  obtain ⟨m,hm⟩:∃ m,m=ks.length:=⟨_,rfl⟩
  rw[←hm] at ha3 hR ⊢
  have Hm:=Lh hm
  have hd0:¬ 40 < d:=by omega
  have hd1:0≤d:=by omega
  obtain ⟨W,hW⟩:∃ W,W=w.alloc (.cells #[.int .i64 op,.int .i64 co,.string (Lx.bs nm),.int .i64 n,.int .i64 x,.slice A m c] 38):=⟨_,rfl⟩
  have hb0:Below w.heap.size w W:=by rw [hW];exact (Below.refl _ _).alloc (Nat.le_refl _) _
  have e0:Blk W w.heap.size 38 #[.int .i64 op,.int .i64 co,.string (Lx.bs nm),.int .i64 n,.int .i64 x,.slice A m c]:=by rw [hW];exact Blk.new _ _ _
  have HE0:=Lh e0;have HB0:=Lh hb0
  have hdw:IntKind.i64.wrap (d+1)=d+1:=IntWalk.i64_in _ (by omega)
  have HD:=Lh hd
  unfold intV strV
  clear ha4 hm e0 hb0 hd
  by_cases hk:300 < m
  ·have HR:Hid (R=300):=Lh (by rw [hR,if_pos hk])
   clear hR
   go_enter Tryz.func47,Tryz.ntmps47
   go_wp2_with fail
   go_ret
   exact ⟨ret_i64 (by rw [HR.out];rfl),by rw [←hW];exact HB0.out⟩
  rw[if_neg hk] at hR
  have HR:=Lh hR
  clear hR
  go_enter Tryz.func47,Tryz.ntmps47
  go_wp2_with fail
  try rw [←hW]
  clear hW
  go_loopg [5,6] m (fun gk v5 v6 wr=>∃ i v:Nat,v5 = .int .i64 v∧v6 = .int .i64 i∧i+gk=m∧v≤13000∧Hid (R=Sx.cntL (Sx.cnt g) v (ks.drop i))∧Hid (Below W.heap.size W wr))
  case atStart=>exact ⟨0,1,rfl,rfl,by omega,by omega,Lh (by rw [List.drop_zero];exact HR.out),Lh (Below.refl _ _)⟩
  case round=>
   obtain ⟨i,v,rfl,rfl,hi,hv,HL,Hb⟩:=hrel
   have Bl:=Lh (HB0.out.trans (Hb.out.mono HB0.out.size))
   have g0:=HE0.out.below Hb.out HE0.out.lt
   have g5:=g0.cell 5
   simp at g5
   have hWs:=HB0.out.size
   clear g0
   by_cases hlt:i < m
   ·by_cases hv3:v < 300
    ·obtain ⟨y,hy⟩:∃ y,ks[i]?=some y:=⟨_,List.getElem?_eq_getElem (by have:=Hm.out;omega)⟩
     have HL2:Hid (R=Sx.cntL (Sx.cnt g) (v+Sx.cnt g y) (ks.drop (i+1))):=Lh (by
      rw[HL.out,List.drop_eq_getElem_cons (by have:=Hm.out;omega)]
      rw[List.getElem?_eq_getElem (by have:=Hm.out;omega)] at hy
      injection hy with hy
      rw[Sx.cntL,if_pos hv3,hy])
     obtain ⟨bk,ok,csk,rfl,hSk,hrk,hck⟩:=Hka.out.get i y hy
     have hrk':=hrk.old Bl.out
     obtain ⟨i0,i1,s2,i3,i4,A5,n5,c5,rfl⟩:=form_rule hrk
     have k0:=(Bl.out.cell (p:=⟨bk,_,none⟩) hSk).trans (hck 0 _ rfl)
     have k1:=(Bl.out.cell (p:=⟨bk,_,none⟩) hSk).trans (hck 1 _ rfl)
     have k2:=(Bl.out.cell (p:=⟨bk,_,none⟩) hSk).trans (hck 2 _ rfl)
     have k3:=(Bl.out.cell (p:=⟨bk,_,none⟩) hSk).trans (hck 3 _ rfl)
     have k4:=(Bl.out.cell (p:=⟨bk,_,none⟩) hSk).trans (hck 4 _ rfl)
     have k5:=(Bl.out.cell (p:=⟨bk,_,none⟩) hSk).trans (hck 5 _ rfl)
     simp only[Nat.zero_add,Nat.add_zero] at k0 k1 k2 k3 k4 k5
     obtain ⟨q,hq⟩:∃ q,q=Sx.cnt g y:=⟨_,rfl⟩
     have hqb:q≤12600:=by rw [hq];exact Nat.le_trans (Sx.cnt_le g y) (by omega)
     have Hcall:=Lh (Hih.out y wr _ hrk')
     rw[←hq] at Hcall HL2
     clear hrk' hrk hck hy hq
     go_wp2_with fail
     refine Hcall.out.mono ?_
     rintro e w5 ⟨rfl,hb5⟩
     have Hb5:=Lh hb5
     clear hb5
     go_wp2_with fail
     go_roundg (gk - 1)
     all_goals first
      | omega
      | exact ⟨i+1,v+q,by go_num,by go_num,by omega,by omega,HL2,Lh (Hb.out.trans (Hb5.out.mono Hb.out.size))⟩
    ·have HR2:Hid (R=v):=Lh (by
      rw[HL.out,List.drop_eq_getElem_cons (by have:=Hm.out;omega),Sx.cntL,if_neg hv3])
     go_wp2_with fail
     go_ret
     exact ⟨ret_i64 (by rw [HR2.out]),Bl.out⟩
   ·obtain rfl:i=m:=by omega
    have HR2:Hid (R=v):=Lh (by rw [HL.out,List.drop_eq_nil_of_le (by have:=Hm.out;omega),Sx.cntL])
    go_wp2_with fail
    go_ret
    exact ⟨ret_i64 (by rw [HR2.out]),Bl.out⟩
set_option maxRecDepth 20000 in
set_option maxHeartbeats 4000000 in
theorem rFewRules (r:Sx.Rule) (w:World) (ca:List Value) (ha:RuleAt w (Old w) r ca):Calls Tryz.prog 19 #[.agg ca.toArray] w (BoolPost (Sx.fewRule r) w):=by
 obtain ⟨R,hR⟩:∃ R,R=Sx.fewRule r:=⟨_,rfl⟩
 rw[←hR]
 obtain ⟨q,hq⟩:∃ q,q=Sx.cnt 41 r:=⟨_,rfl⟩
 have hqb:q≤12600:=by rw [hq];exact Nat.le_trans (Sx.cnt_le 41 r) (by omega)
 obtain ⟨W,hW⟩:∃ W,W=w.alloc (.cells ca.toArray 38):=⟨_,rfl⟩
 have hb0:Below w.heap.size w W:=by rw [hW];exact (Below.refl _ _).alloc (Nat.le_refl _) _
 have e0:Blk W w.heap.size 38 ca.toArray:=by rw [hW];exact Blk.new _ _ _
 have Hcall:=Lh (rCount 41 (Nat.le_refl _) 0 (by omega) r W _ (ha.old hb0))
 obtain ⟨op,co,nm,n,x,ks⟩:=r
 rw[RuleAt] at ha
 obtain ⟨A,c,rfl,ha2,ha3,-⟩:=ha
 rw[Sx.fewRule_mk] at hR
 rw[←hq] at hR Hcall
 obtain ⟨m,hm⟩:∃ m,m=ks.length:=⟨_,rfl⟩
 obtain ⟨l,hl⟩:∃ l,l=nm.length:=⟨_,rfl⟩
 have hls:(Lx.bs nm).size=l:=by rw [hl];exact Lx.bs_size nm
 rw[←hm] at ha3 hW e0 Hcall ⊢
 rw[←hl] at hR ha2
 unfold intV strV at hW e0 Hcall
 unfold intV strV
 have Hls:=Lh hls
 have HE0:=Lh e0;have HB0:=Lh hb0;have HR0:=Lh hR
 have hWs:=hb0.size
 obtain ⟨c0,c1,c2,c3,c4,c5,cz⟩:=cells6 e0
 clear hR hq hm hl hls hb0 e0
 by_cases h1:q < 250
 ·by_cases h2:l≤100
  ·have HR:Hid (R=true):=Lh (by rw [HR0.out,decide_eq_true h1,decide_eq_true h2];rfl)
   go_enter Tryz.func19,Tryz.ntmps19
   go_upto_region 1 with fail
   rw[←hW]
   clear hW
   go_wp2_with fail
   refine Hcall.out.mono ?_
   rintro e w5 ⟨rfl,hb5⟩
   have Hb5:=Lh hb5
   obtain ⟨d0,d1,d2,d3,d4,d5,dz⟩:=cells6 (HE0.out.below hb5 cz)
   have hls:=Hls.out
   clear hb5
   go_wp2_with fail
   go_ret
   exact ⟨ret_bool (by rw [HR.out];exact decide_eq_true (by omega)),HB0.out.trans (Hb5.out.mono hWs)⟩
  ·have HR:Hid (R=false):=Lh (by rw [HR0.out,decide_eq_false h2];simp)
   go_enter Tryz.func19,Tryz.ntmps19
   go_upto_region 1 with fail
   rw[←hW]
   clear hW
   go_wp2_with fail
   refine Hcall.out.mono ?_
   rintro e w5 ⟨rfl,hb5⟩
   have Hb5:=Lh hb5
   obtain ⟨d0,d1,d2,d3,d4,d5,dz⟩:=cells6 (HE0.out.below hb5 cz)
   have hls:=Hls.out
   clear hb5
   go_wp2_with fail
   go_ret
   exact ⟨ret_bool (by rw [HR.out];exact decide_eq_false (by omega)),HB0.out.trans (Hb5.out.mono hWs)⟩
 ·have HR:Hid (R=false):=Lh (by rw [HR0.out,decide_eq_false h1];rfl)
  go_enter Tryz.func19,Tryz.ntmps19
  go_upto_region 1 with fail
  rw[←hW]
  clear hW
  go_wp2_with fail
  refine Hcall.out.mono ?_
  rintro e w5 ⟨rfl,hb5⟩
  have Hb5:=Lh hb5
  clear hb5
  go_wp2_with fail
  go_ret
  exact ⟨ret_bool HR.out.symm,HB0.out.trans (Hb5.out.mono hWs)⟩
theorem Sx.few_no_course {c:Sx.Cat} {i:Nat} {x:Sx.Course} (h:c.courses[i]?=some x) (hx:Sx.fewCourse x=false):Sx.few c=false:=by
 unfold Sx.few
 rw[all_no h hx];simp
theorem Sx.few_no_prog {c:Sx.Cat} {i:Nat} {x:Sx.Prog} (h:c.progs[i]?=some x) (hx:Sx.fewProg x=false):Sx.few c=false:=by
 unfold Sx.few
 rw[all_no h hx];simp
theorem Sx.few_yes {c:Sx.Cat} (h:Sx.fewTop c=true) (h1:∀ (j:Nat) x,j < c.courses.length→c.courses[j]?=some x→Sx.fewCourse x=true) (h2:∀ (j:Nat) x,j < c.progs.length→c.progs[j]?=some x→Sx.fewProg x=true):Sx.few c=true:=by
 unfold Sx.few
 rw[h,all_yes h1,all_yes h2];rfl
theorem Sx.few_no_top {c:Sx.Cat} (h:Sx.fewTop c=false):Sx.few c=false:=by
 unfold Sx.few
 rw[h];simp
set_option maxRecDepth 20000 in
set_option maxHeartbeats 8000000 in
theorem rFew (x:Sx.Cat) (w:World) (ca:List Value) (ha:CatAt w (Old w) x ca):Calls Tryz.prog 18 #[.agg ca.toArray] w (BoolPost (Sx.few x) w):=by
 obtain ⟨R,hR⟩:∃ R,R=Sx.few x:=⟨_,rfl⟩
 rw[←hR]
 obtain ⟨A0,c0,A1,c1,A2,c2,A3,c3,A4,c4,A5,c5,A6,c6,rfl,r0,r1,r2,r3,r4,r5,r6⟩:=ha
 obtain ⟨n0,hn0⟩:∃ n,n=x.courses.length:=⟨_,rfl⟩
 have z0:=r0.len
 rw[←hn0] at z0
 obtain ⟨n1,hn1⟩:∃ n,n=x.same.length:=⟨_,rfl⟩
 have z1:=r1.len
 rw[←hn1] at z1
 obtain ⟨n2,hn2⟩:∃ n,n=x.progs.length:=⟨_,rfl⟩
 have z2:=r2.len
 rw[←hn2] at z2
 obtain ⟨n3,hn3⟩:∃ n,n=x.classes.length:=⟨_,rfl⟩
 have z3:=r3.len
 rw[←hn3] at z3
 obtain ⟨n4,hn4⟩:∃ n,n=x.fees.length:=⟨_,rfl⟩
 have z4:=r4.len
 rw[←hn4] at z4
 obtain ⟨n5,hn5⟩:∃ n,n=x.honours.length:=⟨_,rfl⟩
 have z5:=r5.len
 rw[←hn5] at z5
 obtain ⟨n6,hn6⟩:∃ n,n=x.clauses.length:=⟨_,rfl⟩
 have z6:=r6.len
 rw[←hn6] at z6
 rw[←hn0,←hn1,←hn2,←hn3,←hn4,←hn5,←hn6]
 have htop:Sx.fewTop x=(decide (n0≤8) && decide (n1≤8) && decide (n2≤4) && decide (n3+n4+n5+n6≤20)):=by unfold Sx.fewTop;rw[hn0,hn1,hn2,hn3,hn4,hn5,hn6]
 obtain ⟨W,hW⟩:∃ W,W=w.alloc (.cells #[.slice A0 n0 c0,.slice A1 n1 c1,.slice A2 n2 c2,.slice A3 n3 c3,.slice A4 n4 c4,.slice A5 n5 c5,.slice A6 n6 c6] 30):=⟨_,rfl⟩
 have hb0:Below w.heap.size w W:=by rw [hW];exact (Below.refl _ _).alloc (Nat.le_refl _) _
 have e0:Blk W w.heap.size 30 #[.slice A0 n0 c0,.slice A1 n1 c1,.slice A2 n2 c2,.slice A3 n3 c3,.slice A4 n4 c4,.slice A5 n5 c5,.slice A6 n6 c6]:=by rw [hW];exact Blk.new _ _ _
 have HE0:=Lh e0;have HB0:=Lh hb0;have HR:=Lh hR;have HT:=Lh htop
 have Hn0:=Lh hn0;have Hn2:=Lh hn2;have R0:=Lh r0;have R2:=Lh r2
 have hWs:=hb0.size
 obtain ⟨k0,k1,k2,k3,k4,k5,k6,kz⟩:=cells7 e0
 clear hR htop hn0 hn1 hn2 hn3 hn4 hn5 hn6 r0 r1 r2 r3 r4 r5 r6 hb0 e0
 by_cases a0:8 < n0
 ·have HF:Hid (R=false):=Lh (by rw [HR.out];refine Sx.few_no_top ?_;rw[HT.out];simp;omega)
  go_enter Tryz.func18,Tryz.ntmps18
  go_upto_region 1 with fail
  rw[←hW]
  clear hW
  go_wp2_with fail
  go_ret
  exact ⟨ret_bool (HF.out.symm),HB0.out⟩
 by_cases a1:8 < n1
 ·have HF:Hid (R=false):=Lh (by rw [HR.out];refine Sx.few_no_top ?_;rw[HT.out];simp;omega)
  go_enter Tryz.func18,Tryz.ntmps18
  go_upto_region 1 with fail
  rw[←hW]
  clear hW
  go_wp2_with fail
  go_ret
  exact ⟨ret_bool (HF.out.symm),HB0.out⟩
 by_cases a2:4 < n2
 ·have HF:Hid (R=false):=Lh (by rw [HR.out];refine Sx.few_no_top ?_;rw[HT.out];simp;omega)
  go_enter Tryz.func18,Tryz.ntmps18
  go_upto_region 1 with fail
  rw[←hW]
  clear hW
  go_wp2_with fail
  go_ret
  exact ⟨ret_bool (HF.out.symm),HB0.out⟩
 by_cases a3:20 < n3+n4+n5+n6
 ·have HF:Hid (R=false):=Lh (by rw [HR.out];refine Sx.few_no_top ?_;rw[HT.out];simp;omega)
  go_enter Tryz.func18,Tryz.ntmps18
  go_upto_region 1 with fail
  rw[←hW]
  clear hW
  go_wp2_with fail
  go_ret
  exact ⟨ret_bool (HF.out.symm),HB0.out⟩
 have HT1:Hid (Sx.fewTop x=true):=Lh (by rw [HT.out];simp;omega)
 clear HT
 go_enter Tryz.func18,Tryz.ntmps18
 go_upto_region 1 with fail
 rw[←hW]
 clear hW
 go_wp2_with fail
 clear k0 k1 k2 k3 k4 k5 k6
 go_loopg [3] n0 (fun gk v3 wr=>∃ i:Nat,v3 = .int .i64 i∧i+gk=n0∧Hid (∀ (j:Nat) y,j < i→x.courses[j]?=some y→Sx.fewCourse y=true)∧Hid (Below W.heap.size W wr))
 case atStart=>exact ⟨0,rfl,by omega,Lh (fun j y hj=>absurd hj (Nat.not_lt_zero j)),Lh (Below.refl _ _)⟩
 case round=>
  obtain ⟨i,rfl,hi,Hag,Hb⟩:=hrel
  have Bl:=Lh (HB0.out.trans (Hb.out.mono HB0.out.size))
  obtain ⟨k0,k1,k2,k3,k4,k5,k6,kw⟩:=cells7 (HE0.out.below Hb.out kz)
  by_cases hlt:i < n0
  ·obtain ⟨y,hy⟩:∃ y,x.courses[i]?=some y:=⟨_,List.getElem?_eq_getElem (by have:=Hn0.out;omega)⟩
   have Hy:=Lh hy
   obtain ⟨be,oe,ce,rfl,hSe,hre,hce⟩:=R0.out.at_ i _ hy
   obtain ⟨cn,cb,rfl,hnl,hcn,hcb⟩:=hre
   have hcn':=hcn.old Bl.out
   have hcb':=hcb.old Bl.out
   obtain ⟨i0,i1,s2,i3,i4,A7,n7,c7,rfl⟩:=form_rule hcn
   obtain ⟨j0,j1,t2,j3,j4,B7,m7,d7,rfl⟩:=form_rule hcb
   have g4:=(Bl.out.cell (p:=⟨be,_,none⟩) hSe).trans (hce 4 _ rfl)
   have g5:=(Bl.out.cell (p:=⟨be,_,none⟩) hSe).trans (hce 5 _ rfl)
   have g6:=(Bl.out.cell (p:=⟨be,_,none⟩) hSe).trans (hce 6 _ rfl)
   have g7:=(Bl.out.cell (p:=⟨be,_,none⟩) hSe).trans (hce 7 _ rfl)
   have g8:=(Bl.out.cell (p:=⟨be,_,none⟩) hSe).trans (hce 8 _ rfl)
   have g9:=(Bl.out.cell (p:=⟨be,_,none⟩) hSe).trans (hce 9 _ rfl)
   have g10:=(Bl.out.cell (p:=⟨be,_,none⟩) hSe).trans (hce 10 _ rfl)
   have g11:=(Bl.out.cell (p:=⟨be,_,none⟩) hSe).trans (hce 11 _ rfl)
   have g12:=(Bl.out.cell (p:=⟨be,_,none⟩) hSe).trans (hce 12 _ rfl)
   have g13:=(Bl.out.cell (p:=⟨be,_,none⟩) hSe).trans (hce 13 _ rfl)
   have g14:=(Bl.out.cell (p:=⟨be,_,none⟩) hSe).trans (hce 14 _ rfl)
   have g15:=(Bl.out.cell (p:=⟨be,_,none⟩) hSe).trans (hce 15 _ rfl)
   try simp only [Nat.add_zero] at g4 g5 g6 g7 g8 g9 g10 g11 g12 g13 g14 g15
   have Hc1:=Lh (rFewRules y.need wr _ hcn')
   have Hc2:=Lh (fun (w5:World) (hb:Below wr.heap.size wr w5)=>rFewRules y.bar w5 _ (hcb'.old hb))
   have hbw:be < wr.heap.size:=Nat.lt_of_lt_of_le hSe Bl.out.size
   clear hcn hcb hcn' hcb' hce hy
   cases q1:Sx.fewRule y.need with
   | false=>
    have HF:Hid (R=false):=Lh (by rw [HR.out];refine Sx.few_no_course Hy.out ?_;unfold Sx.fewCourse;rw[q1];rfl)
    rw[q1] at Hc1
    clear q1
    go_wp2_with fail
    refine Hc1.out.mono ?_
    rintro e w5 ⟨rfl,hb5⟩
    have Hb5:=Lh hb5
    clear hb5
    go_wp2_with fail
    go_ret
    exact ⟨ret_bool HF.out.symm,Bl.out.trans (Hb5.out.mono Bl.out.size)⟩
   | true=>
    rw[q1] at Hc1
    have HQ1:=Lh q1
    clear q1
    go_wp2_with fail
    refine Hc1.out.mono ?_
    rintro e w5 ⟨rfl,hb5⟩
    have Hb5:=Lh hb5
    obtain ⟨m0,m1,m2,m3,m4,m5,m6,mw⟩:=cells7 (HE0.out.below (Hb.out.trans (hb5.mono Hb.out.size)) kz)
    have p10:=(hb5.cell (p:=⟨be,_,none⟩) hbw).trans g10
    have p11:=(hb5.cell (p:=⟨be,_,none⟩) hbw).trans g11
    have p12:=(hb5.cell (p:=⟨be,_,none⟩) hbw).trans g12
    have p13:=(hb5.cell (p:=⟨be,_,none⟩) hbw).trans g13
    have p14:=(hb5.cell (p:=⟨be,_,none⟩) hbw).trans g14
    have p15:=(hb5.cell (p:=⟨be,_,none⟩) hbw).trans g15
    clear hb5
    cases q2:Sx.fewRule y.bar with
    | false=>
     have HF:Hid (R=false):=Lh (by rw [HR.out];refine Sx.few_no_course Hy.out ?_;unfold Sx.fewCourse;rw[q2];simp)
     rw[q2] at Hc2
     clear q2
     go_wp2_with fail
     refine (Hc2.out _ Hb5.out).mono ?_
     rintro e w6 ⟨rfl,hb6⟩
     have Hb6:=Lh hb6
     clear hb6
     go_wp2_with fail
     go_ret
     exact ⟨ret_bool HF.out.symm,Bl.out.trans ((Hb5.out.trans (Hb6.out.mono Hb5.out.size)).mono Bl.out.size)⟩
    | true=>
     rw[q2] at Hc2
     have HQ2:=Lh q2
     clear q2
     go_wp2_with fail
     refine (Hc2.out _ Hb5.out).mono ?_
     rintro e w6 ⟨rfl,hb6⟩
     have Hb6:=Lh hb6
     clear hb6
     go_wp2_with fail
     go_roundg (gk - 1)
     all_goals first
      | omega
      | exact ⟨i+1,by go_num,by omega,Lh (fun j z hj h1=>by
        rcases Nat.lt_or_ge j i with h3 | h3
        ·exact Hag.out j z h3 h1
        ·obtain rfl:j=i:=by omega
         rw[Hy.out] at h1
         injection h1 with h1
         rw[←h1];unfold Sx.fewCourse;rw[HQ1.out,HQ2.out];rfl),Lh (Hb.out.trans ((Hb5.out.trans (Hb6.out.mono Hb5.out.size)).mono Hb.out.size))⟩
  ·obtain rfl:i=n0:=by omega
   have HC:Hid (∀ (j:Nat) y,j < x.courses.length→x.courses[j]?=some y→Sx.fewCourse y=true):=Lh (fun j y hj=>Hag.out j y (by have:=Hn0.out;omega))
   have HB1:=Bl
   have HWW:=Hb
   rename World=>V
   clear hi Hag
   go_wp2_with fail
   go_loopg [4] n2 (fun gk v4 wr=>∃ i:Nat,v4 = .int .i64 i∧i+gk=n2∧Hid (∀ (j:Nat) y,j < i→x.progs[j]?=some y→Sx.fewProg y=true)∧V=wr)
   case atStart=>exact ⟨0,rfl,by omega,Lh (fun j y hj=>absurd hj (Nat.not_lt_zero j)),rfl⟩
   case round=>
    obtain ⟨i,rfl,hi,Hag,rfl⟩:=hrel
    by_cases hlt:i < n2
    ·obtain ⟨y,hy⟩:∃ y,x.progs[i]?=some y:=⟨_,List.getElem?_eq_getElem (by have:=Hn2.out;omega)⟩
     have Hy:=Lh hy
     obtain ⟨be,oe,ce,rfl,hSe,hre,hce⟩:=R2.out.at_ i _ hy
     obtain ⟨AQ,cQ,rfl,hnl,hrow⟩:=hre
     have g6:=(Bl.out.cell (p:=⟨be,_,none⟩) hSe).trans (hce 6 _ rfl)
     obtain ⟨nq,hnq⟩:∃ n,n=y.reqs.length:=⟨_,rfl⟩
     have hzq:=hrow.len
     rw[←hnq] at g6 hzq
     have Hnq:=Lh hnq
     have HRow:=Lh hrow
     clear hy hce hnq hrow
     by_cases h70:70 < nq
     ·have HF:Hid (R=false):=Lh (by rw [HR.out];refine Sx.few_no_prog Hy.out ?_;unfold Sx.fewProg;rw[←Hnq.out];simp;omega)
      go_wp2_with fail
      go_ret
      exact ⟨ret_bool HF.out.symm,Bl.out⟩
     obtain ⟨g4,rfl⟩:∃ g4,g4=gk:=⟨gk,rfl⟩
     go_wp2_with fail
     go_loopg [5] nq (fun gk v5 wr=>∃ k:Nat,v5 = .int .i64 k∧k+gk=nq∧Hid (∀ (j:Nat) z,j < k→y.reqs[j]?=some z→Sx.fewReq z=true)∧V=wr)
     case atStart=>exact ⟨0,rfl,by omega,Lh (fun j y hj=>absurd hj (Nat.not_lt_zero j)),rfl⟩
     case round=>
      obtain ⟨k,rfl,hk,Hak,rfl⟩:=hrel
      by_cases hlk:k < nq
      ·obtain ⟨z,hz⟩:∃ z,y.reqs[k]?=some z:=⟨_,List.getElem?_eq_getElem (by have:=Hnq.out;omega)⟩
       have Hz:=Lh hz
       obtain ⟨bf,of,cf,rfl,hSf,hrf,hcf⟩:=HRow.out.at_ k _ hz
       obtain ⟨A8,c8,B8,d8,rfl,-,h8,-⟩:=hrf
       have l4:=(Bl.out.cell (p:=⟨bf,_,none⟩) hSf).trans (hcf 4 _ rfl)
       obtain ⟨nn,hnn⟩:∃ n,n=z.names.length:=⟨_,rfl⟩
       have hzn:=h8.len
       rw[←hnn] at l4 hzn
       have Hnn:=Lh hnn
       clear hz hcf hnn h8
       by_cases h20:20 < nn
       ·have HF:Hid (R=false):=Lh (by
         rw[HR.out];refine Sx.few_no_prog Hy.out ?_;unfold Sx.fewProg
         rw[all_no Hz.out (by unfold Sx.fewReq;rw[←Hnn.out];simp;omega)];simp)
        go_wp2_with fail
        go_ret
        exact ⟨ret_bool HF.out.symm,Bl.out⟩
       ·go_wp2_with fail
        go_roundg (gk - 1)
        all_goals first
         | omega
         | exact ⟨k+1,by go_num,by omega,Lh (fun j u hj h1=>by
           rcases Nat.lt_or_ge j k with h3 | h3
           ·exact Hak.out j u h3 h1
           ·obtain rfl:j=k:=by omega
            rw[Hz.out] at h1
            injection h1 with h1
            rw[←h1];unfold Sx.fewReq;rw[←Hnn.out];simp;omega),rfl⟩
      ·obtain rfl:k=nq:=by omega
       go_wp2_with fail
       go_roundg (g4 - 1)
       all_goals first
        | omega
        | exact ⟨i+1,by go_num,by omega,Lh (fun j z hj h1=>by
          rcases Nat.lt_or_ge j i with h3 | h3
          ·exact Hag.out j z h3 h1
          ·obtain rfl:j=i:=by omega
           rw[Hy.out] at h1
           injection h1 with h1
           rw[←h1];unfold Sx.fewProg
           rw[all_yes (fun j u hj=>Hak.out j u (by have:=Hnq.out;omega)),←Hnq.out];simp;omega),rfl⟩
    ·obtain rfl:i=n2:=by omega
     have HF:Hid (R=true):=Lh (by rw [HR.out];exact Sx.few_yes HT1.out HC.out (fun j y hj=>Hag.out j y (by have:=Hn2.out;omega)))
     go_wp2_with fail
     go_ret
     exact ⟨ret_bool HF.out.symm,Bl.out⟩
end Go.Proofs.YtjonaidancomgaaGreatDoor
