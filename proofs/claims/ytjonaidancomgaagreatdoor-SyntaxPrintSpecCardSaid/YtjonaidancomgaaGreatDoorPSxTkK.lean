/- Parts of the proof, joined into one text: q1S, q1T, q1U, q04. -/
import Derived.Test.YtjonaidancomgaaGreatDoorPSxJnM
import Derived.Test.YtjonaidancomgaaGreatDoorPSxAll
import Derived.Test.YtjonaidancomgaaGreatDoorPSxEq
import Derived.Test.YtjonaidancomgaaGreatDoorPSxIsB
import Derived.Deep.LoopGhost
set_option maxHeartbeats 16000000
set_option maxRecDepth 20000
namespace Go.Proofs.YtjonaidancomgaaGreatDoor
open Go.RowKit
theorem Gs (kd:List UInt8) (x:Sx.Cls) (w:World):Calls Tryz.prog 145 #[.string (Lx.bs kd),.agg #[.string (Lx.bs x.name),.int .i64 x.gD,.int .i64 x.mean.num,.int .i64 x.mean.den]] w (jD (Sx.fu kd x) w):=by
 obtain ⟨nm,ea,⟨n,d⟩⟩:=x;obtain ⟨W,hW⟩:∃ W,W=w.alloc (.cells #[.string (Lx.bs nm),.int .i64 ea,.int .i64 n,.int .i64 d] 82):=⟨_,rfl⟩
 have hb0:Below w.heap.size w W:=by rw [hW];exact (Below.refl _ _).alloc (Nat.le_refl _) _
 have e0:aC W w.heap.size 82 #[.string (Lx.bs nm),.int .i64 ea,.int .i64 n,.int .i64 d]:=by rw [hW];exact aC.new _ _ _
 have aX:Hid (∀ w':World,KP W w'→w'.cell? ⟨w.heap.size,0,none⟩=some (.string (Lx.bs nm))∧w'.cell? ⟨w.heap.size,1,none⟩=some (.int .i64 ea)∧w'.cell? ⟨w.heap.size,2,none⟩=some (.int .i64 n)∧w'.cell? ⟨w.heap.size,3,none⟩=some (.int .i64 d)):=Lh (fun w' hk=>by
  obtain ⟨x0,x1,x2,x3,_⟩:=fB (hk.blk e0 (by decide) (by decide));exact ⟨x0,x1,x2,x3⟩)
 have HB0:=Lh hb0;have HB:=Lh (Below.refl W.heap.size W);obtain ⟨x0,x1,x2,x3,xz⟩:=fB e0;clear hb0 e0;go_enter Tryz.func145,Tryz.ntmps145;go_upto_region 1 with fail;rw[←hW];clear hW
 go_region_held_law (fun w':World=>w'.cell? ⟨w.heap.size,0,none⟩=some (.string (Lx.bs nm))∧w'.cell? ⟨w.heap.size,1,none⟩=some (.int .i64 ea)∧w'.cell? ⟨w.heap.size,2,none⟩=some (.int .i64 n)∧w'.cell? ⟨w.heap.size,3,none⟩=some (.int .i64 d)) (first | exact aX.out _ (KP.below (Below.refl W.heap.size W).drew) | go_keep) (first
 | ((first | (go_at_call 140;refine (sj _ _).mono ?_) | (go_at_call 141;refine (EN _ _).mono ?_) | (go_at_call 142;refine (uY _ _).mono ?_));rintro e w5 ⟨rfl,hb⟩;(first | (replace HT:=(by first | exact Lh (HT.out.call hb) | exact Lh (HT.out.drew.call hb) | exact Lh (HT.out.alloc.call hb));obtain ⟨r0,r1,r2,r3⟩:=aX.out _ HT.out.kp) | (replace HB:=(by first | exact bT HB hb | exact bT (Lh HB.out.drew) hb | exact bT (bT HB ((Below.refl _ _).alloc (Nat.le_refl _) _)) hb);obtain ⟨r0,r1,r2,r3⟩:=aX.out _ (KP.below HB.out)));clear hb)
 | (go_at_call 150;refine (Bh ⟨n,d⟩ _).mono ?_;rintro e w5 ⟨A5,n5,c5,rfl,hr⟩;have hb:=hr.aY;have HQ:=Lh hr;have HX:=Lh hb;have HBk:=HB;(first | (replace HT:=(by first | exact Lh (HT.out.call hb) | exact Lh (HT.out.drew.call hb) | exact Lh (HT.out.alloc.call hb));obtain ⟨r0,r1,r2,r3⟩:=aX.out _ HT.out.kp) | (replace HB:=(by first | exact bT HB hb | exact bT (Lh HB.out.drew) hb | exact bT (bT HB ((Below.refl _ _).alloc (Nat.le_refl _) _)) hb);obtain ⟨r0,r1,r2,r3⟩:=aX.out _ (KP.below HB.out)));clear hb)
 | (have ex:=TS.lit (k:=1) 51 HT.out [Sx.bI 59] rfl rfl (by have a1:=mq.out;have:=HQ.out.len;simp[Sx.bO] at this;omega);refine aL rfl rfl _ _ _ rfl rfl rfl ex ?_;clear ex;rintro v w6 ⟨Pm,Pn,c2',Ob,rfl,hn,hL,ht⟩;have Ji:=Lh hn;have HL2:=Lh hL;replace HT:=Lh ht;clear hn hL ht;obtain ⟨r0,r1,r2,r3⟩:=aX.out _ HT.out.kp;(try simp only [Act.put,List.setIfInBounds_toArray,List.set_cons_zero,List.set_cons_succ]))
 | (have ex:=TS.app (d:=c5) 51 ((TS.start (l:=[Sx.av kd,Sx.av nm,Sx.aW ea,Sx.av Sx.fD]) (n:=4) (cs:=#[.int .i64 1,.string (Lx.bs kd),.int .i64 0,.int .i64 0,.int .i64 1,.string (Lx.bs nm),.int .i64 0,.int .i64 0,.int .i64 2,.string ⟨#[]⟩,.int .i64 ea,.int .i64 0,.int .i64 1,.string ⟨#[109,101,97,110]⟩,.int .i64 0,.int .i64 0]) (bT HB0 HBk).out (KP.below HBk.out) rfl (by simp) rfl).call HX.out) HQ.out.lies HQ.out.len (by have:=HQ.out.len;simp[Sx.bO] at this;omega);refine aL rfl rfl _ _ _ rfl rfl rfl ex ?_;clear ex;rintro v w6 ⟨wm,n1',c1',tq,rfl,hn,hL,ht⟩;have mq:=Lh hn;have mX:=Lh hL;have HT:=Lh ht;clear hn hL ht;obtain ⟨r0,r1,r2,r3⟩:=aX.out _ HT.out.kp;(try simp only [Act.put,List.setIfInBounds_toArray,List.set_cons_zero,List.set_cons_succ]))
 | (have ex:=TS.app (d:=c5) 51 (TS.start (l:=[Sx.av kd,Sx.av nm,Sx.aW ea,Sx.av Sx.fD]) (n:=4) (cs:=#[.int .i64 1,.string (Lx.bs kd),.int .i64 0,.int .i64 0,.int .i64 1,.string (Lx.bs nm),.int .i64 0,.int .i64 0,.int .i64 2,.string ⟨#[]⟩,.int .i64 ea,.int .i64 0,.int .i64 1,.string ⟨#[109,101,97,110]⟩,.int .i64 0,.int .i64 0]) (bT HB0 HB).out (KP.below HB.out) rfl (by simp) rfl) HQ.out.alloc.lies HQ.out.len (by have:=HQ.out.len;simp[Sx.bO] at this;omega);refine aL rfl rfl _ _ _ rfl rfl rfl ex ?_;clear ex;rintro v w6 ⟨wm,n1',c1',tq,rfl,hn,hL,ht⟩;have mq:=Lh hn;have mX:=Lh hL;have HT:=Lh ht;clear hn hL ht;obtain ⟨r0,r1,r2,r3⟩:=aX.out _ HT.out.kp;(try simp only [Act.put,List.setIfInBounds_toArray,List.set_cons_zero,List.set_cons_succ])))
 all_goals (try go_wp2_with fail)
 all_goals go_ret
 all_goals (obtain rfl:Ob=_:=HL2.out.trans (by rw [mX.out]))
 all_goals exact ⟨_,_,_,rfl,HT.out.onto (KP.below HB0.out)⟩
theorem Sx.kU {ks:List Sx.Rule} : ∀ {i:Nat} {y:Sx.Rule},ks[i]?=some y→Sx.bC (ks.take (i+1))=Sx.bC (ks.take i)++(Sx.aF y++[Sx.bI 59]):=by
 induction ks with
 | nil=>intro i y h;simp at h
 | cons k ks ih=>
  intro i y h;cases i with
  | zero=>
   obtain rfl:k=y:=by simpa using h
   simp[Sx.bC]
  | succ i=>
   rw[List.take_succ_cons,List.take_succ_cons,Sx.bC,Sx.bC,ih (by simpa using h)];simp
theorem Sx.yu {ks:List Sx.Rule} : ∀ (i:Nat),(Sx.bC (ks.take i)).length≤(Sx.bC ks).length:=by
 induction ks with
 | nil=>intro i;simp
 | cons k ks ih=>
  intro i;cases i with
  | zero=>simp [Sx.bC]
  | succ i=>rw [List.take_succ_cons,Sx.bC,Sx.bC];have:=ih i;simp only[List.length_append,List.length_cons];omega
theorem pQ (s:List UInt8) (n:Int):(Sx.fO s n).length≤2:=by unfold Sx.fO;split <;> simp
theorem Sx.pR {k:Nat} : ∀ {ks:List Sx.Rule},Sx.dU k ks=true→∀ r∈ks,Sx.aO k r=true
 | [],_,r,h=>by simp at h
 | x::xs,h,r,hr=>by
  rw[Sx.dU,Bool.and_eq_true] at h
  rcases List.mem_cons.1 hr with rfl | hr
  ·exact h.1
  ·exact Sx.pR h.2 r hr
theorem OL (k:Nat) (ih:∀ (r:Sx.Rule),Sx.aO k r=true→(Sx.aF r).length≤60000→∀ (w:World) (ca:List Value),aB w (Old w) r ca→Calls Tryz.prog 60 #[.agg ca.toArray] w (jD (Sx.aF r) w)) (op co:Int) (nm:List UInt8) (n d:Int) (ks:List Sx.Rule) (hop:(op=4∧ks.length=1)∨op=5∨op=6∨op=7∨op=8∨op=9) (vD:Sx.dU k ks=true) (hlen:(Sx.aF (.mk op co nm n d ks)).length≤60000) (w:World) (ca:List Value) (hr:aB w (Old w) (.mk op co nm n d ks) ca):Calls Tryz.prog 60 #[.agg ca.toArray] w (jD (Sx.aF (.mk op co nm n d ks)) w):=by
  rw[aB] at hr;obtain ⟨A,c,rfl,_,hm0,hks⟩:=hr;have HR:Hid (Row w (Old w) A 6 (aB w (Old w)) ks):=Lh ⟨kZ.1 hks,hm0⟩;obtain ⟨m,hm⟩:∃ m,m=ks.length:=⟨_,rfl⟩
  rw[←hm] at hm0 ⊢;have Hm:=Lh hm;simp only[bB,aT];have IH:=Lh (fun (r:Sx.Rule) (hr:r∈ks)=>ih r (Sx.pR vD r hr));obtain ⟨W,hW⟩:∃ W,W=(w.alloc (.cells #[.int .i64 op,.int .i64 co,.string (Lx.bs nm),.int .i64 n,.int .i64 d,.slice A m c] 38)).alloc (.cells #[.string ⟨#[97,108,108]⟩,.string ⟨#[97,110,121]⟩,.string ⟨#[108,101,97,115,116]⟩,.string ⟨#[110,111,116]⟩,.string ⟨#[112,97,115,115]⟩,.string ⟨#[116,114,105,101,115]⟩,.string ⟨#[101,97,114,110]⟩,.string ⟨#[109,101,97,110]⟩,.string ⟨#[119,105,116,104]⟩] 9):=⟨_,rfl⟩
  have hb0:Below w.heap.size w W:=by rw [hW];exact ((Below.refl _ _).alloc (Nat.le_refl _) _).alloc (by simp) _
  have e0:aC W w.heap.size 38 #[.int .i64 op,.int .i64 co,.string (Lx.bs nm),.int .i64 n,.int .i64 d,.slice A m c]:=by rw [hW];exact (aC.new _ _ _).alloc _
  have e1:aC W (w.heap.size+1) 9 #[.string ⟨#[97,108,108]⟩,.string ⟨#[97,110,121]⟩,.string ⟨#[108,101,97,115,116]⟩,.string ⟨#[110,111,116]⟩,.string ⟨#[112,97,115,115]⟩,.string ⟨#[116,114,105,101,115]⟩,.string ⟨#[101,97,114,110]⟩,.string ⟨#[109,101,97,110]⟩,.string ⟨#[119,105,116,104]⟩]:=by rw [hW];exact aC.aZ _ _ (by simp)
  have aX:Hid (∀ w':World,KP W w'→w'.cell? ⟨w.heap.size,0,none⟩=some (.int .i64 op)∧w'.cell? ⟨w.heap.size,1,none⟩=some (.int .i64 co)∧w'.cell? ⟨w.heap.size,2,none⟩=some (.string (Lx.bs nm))∧w'.cell? ⟨w.heap.size,3,none⟩=some (.int .i64 n)∧w'.cell? ⟨w.heap.size,4,none⟩=some (.int .i64 d)∧w'.cell? ⟨w.heap.size,5,none⟩=some (.slice A m c)):=Lh (fun w' hk=>by
   obtain ⟨x0,x1,x2,x3,x4,x5,_⟩:=aQ (hk.blk e0 (by decide) (by decide));exact ⟨x0,x1,x2,x3,x4,x5⟩)
  have HB0:=Lh hb0;have rX:=Lh e1;have HLEN:=Lh hlen;obtain ⟨r0,r1,r2,r3,r4,r5,xz⟩:=aQ e0;have yz:=e1.lt;clear hb0 e0 e1 hks hm vD ih hlen;go_enter Tryz.func60,Tryz.ntmps60;go_upto_region 2 with fail;rw[←hW];clear hW
  rcases hop with ⟨rfl,hk1⟩ | rfl | rfl | rfl | rfl | rfl
  ·have y0:=rX.out.cell 3;simp at y0;go_wp2_with fail;refine (sj _ _).mono ?_;rintro e w1 ⟨rfl,hb⟩;have HB1:=bT HB0 hb;have HT:=Lh (TS.start (V:=W) (l:=[Sx.av (Sx.ruleWords.getD ((4:Int) - 1).toNat [])]) (n:=1) (cs:=#[.int .i64 1,.string ⟨#[110,111,116]⟩,.int .i64 0,.int .i64 0]) HB1.out (KP.below hb) rfl (by simp) rfl);obtain ⟨r0,r1,r2,r3,r4,r5⟩:=aX.out _ HT.out.kp;clear hb y0;obtain ⟨y,rfl⟩:∃ y,ks = [y]:=by
    match ks,hk1 with
    | [y],_=>exact ⟨y,rfl⟩
   obtain rfl:m=1:=Hm.out;obtain ⟨be,oe,ce,rfl,cO,hre,hce⟩:=HR.out.at_ 0 y rfl;have SC:1+(Sx.aF y).length≤60000:=by have:=HLEN.out;rw[Sx.aF] at this;simp[Sx.tZ] at this;omega
   have aH:=Lh (IH.out y (by simp) (by omega) _ _ (cu HT.out.aY hre));obtain ⟨i0,i1,s2,i3,i4,A7,n7,c7,rfl⟩:=bG hre;have hbe:=Nat.lt_of_lt_of_le cO HT.out.aY.size;have g0:=(HT.out.aY.cell (p:=⟨be,_,none⟩) cO).trans (hce 0 _ rfl);have g1:=(HT.out.aY.cell (p:=⟨be,_,none⟩) cO).trans (hce 1 _ rfl);have g2:=(HT.out.aY.cell (p:=⟨be,_,none⟩) cO).trans (hce 2 _ rfl);have g3:=(HT.out.aY.cell (p:=⟨be,_,none⟩) cO).trans (hce 3 _ rfl);have g4:=(HT.out.aY.cell (p:=⟨be,_,none⟩) cO).trans (hce 4 _ rfl);have g5:=(HT.out.aY.cell (p:=⟨be,_,none⟩) cO).trans (hce 5 _ rfl)
   try simp only [Nat.add_zero,Nat.zero_mul] at g0 g1 g2 g3 g4 g5
   clear hre hce
   go_wp2_with (first | (go_at_call 60;refine (aH.out).mono ?_;rintro e w5 ⟨A5,n5,c5,rfl,hr⟩;have hb:=hr.aY;have HQ:=Lh hr;replace HT:=(by first | exact Lh (HT.out.call hb) | exact Lh (HT.out.drew.call hb));obtain ⟨r0,r1,r2,r3,r4,r5⟩:=aX.out _ HT.out.kp;clear hb) | (at_builtin;have ex:=TS.app (d:=c5) 51 HT.out HQ.out.lies HQ.out.len (by have:=HQ.out.len;omega);refine aI rfl _ _ _ rfl rfl rfl ex ?_;clear ex;rintro v w6 ⟨wm,n1',c1',tq,rfl,hn,hL,ht⟩;have mq:=Lh hn;have mX:=Lh hL;replace HT:=Lh ht;clear hn hL ht;obtain ⟨r0,r1,r2,r3,r4,r5⟩:=aX.out _ HT.out.kp))
   go_ret;have e:tq=Sx.aF (.mk 4 co nm n d [y]):=by rw [mX.out,Sx.aF];simp[Sx.tZ]
   rw[←e];exact ⟨_,_,_,rfl,(HT.out.onto (KP.below HB0.out)).re (by first | rfl | omega)⟩
  ·have y0:=rX.out.cell 4;simp at y0;go_wp2_with fail;refine (sj _ _).mono ?_;rintro e w1 ⟨rfl,hb⟩;have HB1:=bT HB0 hb;have HT:=Lh (TS.start (V:=W) (l:=[Sx.av (Sx.ruleWords.getD ((5:Int) - 1).toNat [])]) (n:=1) (cs:=#[.int .i64 1,.string ⟨#[112,97,115,115]⟩,.int .i64 0,.int .i64 0]) HB1.out (KP.below hb) rfl (by simp) rfl);obtain ⟨r0,r1,r2,r3,r4,r5⟩:=aX.out _ HT.out.kp;clear hb y0;go_wp2_with fail
   go_region_held_law (fun w':World=>w'.cell? ⟨w.heap.size,0,none⟩=some (.int .i64 5)∧w'.cell? ⟨w.heap.size,1,none⟩=some (.int .i64 co)∧w'.cell? ⟨w.heap.size,2,none⟩=some (.string (Lx.bs nm))∧w'.cell? ⟨w.heap.size,3,none⟩=some (.int .i64 n)∧w'.cell? ⟨w.heap.size,4,none⟩=some (.int .i64 d)∧w'.cell? ⟨w.heap.size,5,none⟩=some (.slice A m c)) (first | exact aX.out _ HT.out.drew.kp | go_keep) (first
    | (go_at_call 143;refine (xP nm co _).mono ?_;rintro e w5 ⟨A5,n5,c5,rfl,hr⟩;have hb:=hr.aY;have HQ:=Lh hr;replace HT:=(by first | exact Lh (HT.out.call hb) | exact Lh (HT.out.drew.call hb));obtain ⟨r0,r1,r2,r3,r4,r5⟩:=aX.out _ HT.out.kp;clear hb)
    | (go_at_call 141;refine (EN _ _).mono ?_;rintro e w5 ⟨rfl,hb⟩;replace HT:=(by first | exact Lh (HT.out.call hb) | exact Lh (HT.out.drew.call hb));obtain ⟨r0,r1,r2,r3,r4,r5⟩:=aX.out _ HT.out.kp;clear hb)
    | (have ex:=TS.lit (k:=1) 51 HT.out [Sx.aW n] rfl rfl (by have a1:=mq.out;have:=HQ.out.len;have:=pQ nm co;omega);refine aL rfl rfl _ _ _ rfl rfl rfl ex ?_;clear ex;rintro v w6 ⟨Pm,Pn,c2',Ob,rfl,hn,hL,ht⟩;have Ji:=Lh hn;have HL2:=Lh hL;replace HT:=Lh ht;clear hn hL ht;obtain ⟨r0,r1,r2,r3,r4,r5⟩:=aX.out _ HT.out.kp;(try simp only [Act.put,List.setIfInBounds_toArray,List.set_cons_zero,List.set_cons_succ]))
    | (have ex:=TS.app (d:=c5) 51 HT.out HQ.out.lies HQ.out.len (by have:=HQ.out.len;have:=pQ nm co;omega);refine aL rfl rfl _ _ _ rfl rfl rfl ex ?_;clear ex;rintro v w6 ⟨wm,n1',c1',tq,rfl,hn,hL,ht⟩;have mq:=Lh hn;have mX:=Lh hL;replace HT:=Lh ht;clear hn hL ht;obtain ⟨r0,r1,r2,r3,r4,r5⟩:=aX.out _ HT.out.kp;(try simp only [Act.put,List.setIfInBounds_toArray,List.set_cons_zero,List.set_cons_succ])))
   all_goals (try go_wp2_with fail)
   all_goals (
    go_ret;have e:Ob=Sx.aF (.mk 5 co nm n d ks):=by rw [HL2.out,mX.out,Sx.aF];simp
    rw[←e];exact ⟨_,_,_,rfl,(HT.out.onto (KP.below HB0.out)).re (by first | rfl | omega)⟩)
  ·have y0:=rX.out.cell 5;simp at y0;go_wp2_with fail;refine (sj _ _).mono ?_;rintro e w1 ⟨rfl,hb⟩;have HB1:=bT HB0 hb;have HT:=Lh (TS.start (V:=W) (l:=[Sx.av (Sx.ruleWords.getD ((6:Int) - 1).toNat [])]) (n:=1) (cs:=#[.int .i64 1,.string ⟨#[116,114,105,101,115]⟩,.int .i64 0,.int .i64 0]) HB1.out (KP.below hb) rfl (by simp) rfl);obtain ⟨r0,r1,r2,r3,r4,r5⟩:=aX.out _ HT.out.kp;clear hb y0;go_wp2_with fail
   go_region_held_law (fun w':World=>w'.cell? ⟨w.heap.size,0,none⟩=some (.int .i64 6)∧w'.cell? ⟨w.heap.size,1,none⟩=some (.int .i64 co)∧w'.cell? ⟨w.heap.size,2,none⟩=some (.string (Lx.bs nm))∧w'.cell? ⟨w.heap.size,3,none⟩=some (.int .i64 n)∧w'.cell? ⟨w.heap.size,4,none⟩=some (.int .i64 d)∧w'.cell? ⟨w.heap.size,5,none⟩=some (.slice A m c)) (first | exact aX.out _ HT.out.drew.kp | go_keep) (first
    | (go_at_call 143;refine (xP nm co _).mono ?_;rintro e w5 ⟨A5,n5,c5,rfl,hr⟩;have hb:=hr.aY;have HQ:=Lh hr;replace HT:=(by first | exact Lh (HT.out.call hb) | exact Lh (HT.out.drew.call hb));obtain ⟨r0,r1,r2,r3,r4,r5⟩:=aX.out _ HT.out.kp;clear hb)
    | (go_at_call 141;refine (EN _ _).mono ?_;rintro e w5 ⟨rfl,hb⟩;replace HT:=(by first | exact Lh (HT.out.call hb) | exact Lh (HT.out.drew.call hb));obtain ⟨r0,r1,r2,r3,r4,r5⟩:=aX.out _ HT.out.kp;clear hb)
    | (have ex:=TS.lit (k:=1) 51 HT.out [Sx.aW n] rfl rfl (by have a1:=mq.out;have:=HQ.out.len;have:=pQ nm co;omega);refine aL rfl rfl _ _ _ rfl rfl rfl ex ?_;clear ex;rintro v w6 ⟨Pm,Pn,c2',Ob,rfl,hn,hL,ht⟩;have Ji:=Lh hn;have HL2:=Lh hL;replace HT:=Lh ht;clear hn hL ht;obtain ⟨r0,r1,r2,r3,r4,r5⟩:=aX.out _ HT.out.kp;(try simp only [Act.put,List.setIfInBounds_toArray,List.set_cons_zero,List.set_cons_succ]))
    | (have ex:=TS.app (d:=c5) 51 HT.out HQ.out.lies HQ.out.len (by have:=HQ.out.len;have:=pQ nm co;omega);refine aL rfl rfl _ _ _ rfl rfl rfl ex ?_;clear ex;rintro v w6 ⟨wm,n1',c1',tq,rfl,hn,hL,ht⟩;have mq:=Lh hn;have mX:=Lh hL;replace HT:=Lh ht;clear hn hL ht;obtain ⟨r0,r1,r2,r3,r4,r5⟩:=aX.out _ HT.out.kp;(try simp only [Act.put,List.setIfInBounds_toArray,List.set_cons_zero,List.set_cons_succ])))
   all_goals (try go_wp2_with fail)
   all_goals (
    go_ret;have e:Ob=Sx.aF (.mk 6 co nm n d ks):=by rw [HL2.out,mX.out,Sx.aF];simp
    rw[←e];exact ⟨_,_,_,rfl,(HT.out.onto (KP.below HB0.out)).re (by first | rfl | omega)⟩)
  ·have y0:=rX.out.cell 6;simp at y0;go_wp2_with fail;refine (sj _ _).mono ?_;rintro e w1 ⟨rfl,hb⟩;have HB1:=bT HB0 hb;have HT:=Lh (TS.start (V:=W) (l:=[Sx.av (Sx.ruleWords.getD ((7:Int) - 1).toNat [])]) (n:=1) (cs:=#[.int .i64 1,.string ⟨#[101,97,114,110]⟩,.int .i64 0,.int .i64 0]) HB1.out (KP.below hb) rfl (by simp) rfl);obtain ⟨r0,r1,r2,r3,r4,r5⟩:=aX.out _ HT.out.kp;clear hb y0
   go_wp2_with (first | (go_at_call 141;refine (EN _ _).mono ?_;rintro e w5 ⟨rfl,hb⟩;replace HT:=(by first | exact Lh (HT.out.call hb) | exact Lh (HT.out.drew.call hb));obtain ⟨r0,r1,r2,r3,r4,r5⟩:=aX.out _ HT.out.kp;clear hb) | (at_builtin;have ex:=TS.lit (k:=1) 51 HT.out [Sx.aW n] rfl rfl (by omega);refine aI rfl _ _ _ rfl rfl rfl ex ?_;clear ex;rintro v w6 ⟨wm,n1',c1',tq,rfl,hn,hL,ht⟩;have mq:=Lh hn;have mX:=Lh hL;replace HT:=Lh ht;clear hn hL ht;obtain ⟨r0,r1,r2,r3,r4,r5⟩:=aX.out _ HT.out.kp))
   go_ret;have e:tq=Sx.aF (.mk 7 co nm n d ks):=by rw [mX.out,Sx.aF];simp
   rw[←e];exact ⟨_,_,_,rfl,(HT.out.onto (KP.below HB0.out)).re (by first | rfl | omega)⟩
  ·have y0:=rX.out.cell 7;simp at y0;go_wp2_with fail;refine (sj _ _).mono ?_;rintro e w1 ⟨rfl,hb⟩;have HB1:=bT HB0 hb;have HT:=Lh (TS.start (V:=W) (l:=[Sx.av (Sx.ruleWords.getD ((8:Int) - 1).toNat [])]) (n:=1) (cs:=#[.int .i64 1,.string ⟨#[109,101,97,110]⟩,.int .i64 0,.int .i64 0]) HB1.out (KP.below hb) rfl (by simp) rfl);obtain ⟨r0,r1,r2,r3,r4,r5⟩:=aX.out _ HT.out.kp;clear hb y0
   go_wp2_with (first | (go_at_call 150;refine (Bh ⟨n,d⟩ _).mono ?_;rintro e w5 ⟨A5,n5,c5,rfl,hr⟩;have hb:=hr.aY;have HQ:=Lh hr;replace HT:=(by first | exact Lh (HT.out.call hb) | exact Lh (HT.out.drew.call hb));obtain ⟨r0,r1,r2,r3,r4,r5⟩:=aX.out _ HT.out.kp;clear hb) | (at_builtin;have ex:=TS.app (d:=c5) 51 HT.out HQ.out.lies HQ.out.len (by have:=HQ.out.len;simp[Sx.bO] at this;omega);refine aI rfl _ _ _ rfl rfl rfl ex ?_;clear ex;rintro v w6 ⟨wm,n1',c1',tq,rfl,hn,hL,ht⟩;have mq:=Lh hn;have mX:=Lh hL;replace HT:=Lh ht;clear hn hL ht;obtain ⟨r0,r1,r2,r3,r4,r5⟩:=aX.out _ HT.out.kp))
   go_ret;have e:tq=Sx.aF (.mk 8 co nm n d ks):=by rw [mX.out,Sx.aF];simp
   rw[←e];exact ⟨_,_,_,rfl,(HT.out.onto (KP.below HB0.out)).re (by first | rfl | omega)⟩
  ·have y0:=rX.out.cell 8;simp at y0;go_wp2_with fail;refine (sj _ _).mono ?_;rintro e w1 ⟨rfl,hb⟩;have HB1:=bT HB0 hb;have HT:=Lh (TS.start (V:=W) (l:=[Sx.av (Sx.ruleWords.getD ((9:Int) - 1).toNat [])]) (n:=1) (cs:=#[.int .i64 1,.string ⟨#[119,105,116,104]⟩,.int .i64 0,.int .i64 0]) HB1.out (KP.below hb) rfl (by simp) rfl);obtain ⟨r0,r1,r2,r3,r4,r5⟩:=aX.out _ HT.out.kp;clear hb y0
   go_wp2_with (first | (go_at_call 143;refine (xP nm co _).mono ?_;rintro e w5 ⟨A5,n5,c5,rfl,hr⟩;have hb:=hr.aY;have HQ:=Lh hr;replace HT:=(by first | exact Lh (HT.out.call hb) | exact Lh (HT.out.drew.call hb));obtain ⟨r0,r1,r2,r3,r4,r5⟩:=aX.out _ HT.out.kp;clear hb) | (at_builtin;have ex:=TS.app (d:=c5) 51 HT.out HQ.out.lies HQ.out.len (by have:=HQ.out.len;have:=pQ nm co;omega);refine aI rfl _ _ _ rfl rfl rfl ex ?_;clear ex;rintro v w6 ⟨wm,n1',c1',tq,rfl,hn,hL,ht⟩;have mq:=Lh hn;have mX:=Lh hL;replace HT:=Lh ht;clear hn hL ht;obtain ⟨r0,r1,r2,r3,r4,r5⟩:=aX.out _ HT.out.kp))
   go_ret;have e:tq=Sx.aF (.mk 9 co nm n d ks):=by rw [mX.out,Sx.aF];simp
   rw[←e];exact ⟨_,_,_,rfl,(HT.out.onto (KP.below HB0.out)).re (by first | rfl | omega)⟩
theorem OM (k:Nat) (ih:∀ (r:Sx.Rule),Sx.aO k r=true→(Sx.aF r).length≤60000→∀ (w:World) (ca:List Value),aB w (Old w) r ca→Calls Tryz.prog 60 #[.agg ca.toArray] w (jD (Sx.aF r) w)) (op co:Int) (nm:List UInt8) (n d:Int) (ks:List Sx.Rule) (hop:op=1∨op=2∨op=3) (vD:Sx.dU k ks=true) (hlen:(Sx.aF (.mk op co nm n d ks)).length≤60000) (w:World) (ca:List Value) (hr:aB w (Old w) (.mk op co nm n d ks) ca):Calls Tryz.prog 60 #[.agg ca.toArray] w (jD (Sx.aF (.mk op co nm n d ks)) w):=by
  rw[aB] at hr;obtain ⟨A,c,rfl,_,hm0,hks⟩:=hr;have HR:Hid (Row w (Old w) A 6 (aB w (Old w)) ks):=Lh ⟨kZ.1 hks,hm0⟩;obtain ⟨m,hm⟩:∃ m,m=ks.length:=⟨_,rfl⟩
  rw[←hm] at hm0 ⊢;have Hm:=Lh hm;simp only[bB,aT];have IH:=Lh (fun (r:Sx.Rule) (hr:r∈ks)=>ih r (Sx.pR vD r hr));obtain ⟨W,hW⟩:∃ W,W=(w.alloc (.cells #[.int .i64 op,.int .i64 co,.string (Lx.bs nm),.int .i64 n,.int .i64 d,.slice A m c] 38)).alloc (.cells #[.string ⟨#[97,108,108]⟩,.string ⟨#[97,110,121]⟩,.string ⟨#[108,101,97,115,116]⟩,.string ⟨#[110,111,116]⟩,.string ⟨#[112,97,115,115]⟩,.string ⟨#[116,114,105,101,115]⟩,.string ⟨#[101,97,114,110]⟩,.string ⟨#[109,101,97,110]⟩,.string ⟨#[119,105,116,104]⟩] 9):=⟨_,rfl⟩
  have hb0:Below w.heap.size w W:=by rw [hW];exact ((Below.refl _ _).alloc (Nat.le_refl _) _).alloc (by simp) _
  have e0:aC W w.heap.size 38 #[.int .i64 op,.int .i64 co,.string (Lx.bs nm),.int .i64 n,.int .i64 d,.slice A m c]:=by rw [hW];exact (aC.new _ _ _).alloc _
  have e1:aC W (w.heap.size+1) 9 #[.string ⟨#[97,108,108]⟩,.string ⟨#[97,110,121]⟩,.string ⟨#[108,101,97,115,116]⟩,.string ⟨#[110,111,116]⟩,.string ⟨#[112,97,115,115]⟩,.string ⟨#[116,114,105,101,115]⟩,.string ⟨#[101,97,114,110]⟩,.string ⟨#[109,101,97,110]⟩,.string ⟨#[119,105,116,104]⟩]:=by rw [hW];exact aC.aZ _ _ (by simp)
  have aX:Hid (∀ w':World,KP W w'→w'.cell? ⟨w.heap.size,0,none⟩=some (.int .i64 op)∧w'.cell? ⟨w.heap.size,1,none⟩=some (.int .i64 co)∧w'.cell? ⟨w.heap.size,2,none⟩=some (.string (Lx.bs nm))∧w'.cell? ⟨w.heap.size,3,none⟩=some (.int .i64 n)∧w'.cell? ⟨w.heap.size,4,none⟩=some (.int .i64 d)∧w'.cell? ⟨w.heap.size,5,none⟩=some (.slice A m c)):=Lh (fun w' hk=>by
   obtain ⟨x0,x1,x2,x3,x4,x5,_⟩:=aQ (hk.blk e0 (by decide) (by decide));exact ⟨x0,x1,x2,x3,x4,x5⟩)
  have HB0:=Lh hb0;have rX:=Lh e1;have HLEN:=Lh hlen;obtain ⟨r0,r1,r2,r3,r4,r5,xz⟩:=aQ e0;have yz:=e1.lt;clear hb0 e0 e1 hks hm vD ih hlen;go_enter Tryz.func60,Tryz.ntmps60;go_upto_region 2 with fail;rw[←hW];clear hW
  rcases hop with rfl | rfl | rfl
  ·have y0:=rX.out.cell 0;simp at y0;go_wp2_with fail;refine (sj _ _).mono ?_;rintro e w1 ⟨rfl,hb⟩;have HB1:=bT HB0 hb;have HT:=Lh (TS.start (V:=W) (l:=[Sx.av (Sx.ruleWords.getD ((1:Int) - 1).toNat [])]) (n:=1) (cs:=#[.int .i64 1,.string ⟨#[97,108,108]⟩,.int .i64 0,.int .i64 0]) HB1.out (KP.below hb) rfl (by simp) rfl);obtain ⟨r0,r1,r2,r3,r4,r5⟩:=aX.out _ HT.out.kp;clear hb y0
   go_wp2_with (first | (go_at_call 142;refine (uY _ _).mono ?_;rintro e w5 ⟨rfl,hb⟩;replace HT:=(by first | exact Lh (HT.out.call hb) | exact Lh (HT.out.drew.call hb));obtain ⟨r0,r1,r2,r3,r4,r5⟩:=aX.out _ HT.out.kp;clear hb) | (at_builtin;have ex:=TS.lit (k:=1) 51 HT.out [Sx.bI 123] rfl rfl (by omega);refine aI rfl _ _ _ rfl rfl rfl ex ?_;clear ex;rintro v w6 ⟨wm,n1',c1',tq,rfl,hn,hL,ht⟩;have mq:=Lh hn;have mX:=Lh hL;replace HT:=Lh ht;clear hn hL ht;obtain ⟨r0,r1,r2,r3,r4,r5⟩:=aX.out _ HT.out.kp))
   have hnk:n1'+(Sx.bC ks).length≤60000:=by have a1:=mq.out;have:=HLEN.out;rw[Sx.aF] at this;simp at this;omega
   have hnl:=HT.out.len
   go_loopg [4,5] m (fun gk v4 v5 wr=>∃ (i n' c':Nat) (A':Option Addr) (L':List Lx.Tok),v5 = .int .i64 i∧i+gk=m∧v4 = .slice A' n' c'∧Hid (TS w W L' A' n' c' wr)∧Hid (L'=tq++Sx.bC (ks.take i)))
   case atStart=>exact ⟨0,_,_,_,_,rfl,by omega,rfl,HT,Lh (by simp [Sx.bC])⟩
   case round=>
    obtain ⟨i,n',c',A',L',rfl,hi,rfl,HT,HL⟩:=hrel;obtain ⟨r0,r1,r2,r3,r4,r5⟩:=aX.out _ HT.out.kp;have Gt:=Lh (show n'=n1'+(Sx.bC (ks.take i)).length by rw [←HT.out.len,HL.out,List.length_append,hnl])
    by_cases hlt:i < m
    ·obtain ⟨y,hy⟩:∃ y,ks[i]?=some y:=⟨_,List.getElem?_eq_getElem (by have:=Hm.out;omega)⟩
     obtain ⟨be,oe,ce,rfl,cO,hre,hce⟩:=HR.out.at_ i _ hy;have hl2:=Sx.yu (ks:=ks) (i+1);rw[Sx.kU hy] at hl2;simp only[List.length_append,List.length_singleton] at hl2;have aH:=Lh (IH.out y (List.mem_of_getElem? hy) (by omega) _ _ (cu HT.out.aY hre));obtain ⟨i0,i1,s2,i3,i4,A7,n7,c7,rfl⟩:=bG hre;have hbe:be < wr.heap.size:=Nat.lt_of_lt_of_le cO HT.out.aY.size;have g0:=(HT.out.aY.cell (p:=⟨be,_,none⟩) cO).trans (hce 0 _ rfl);have g1:=(HT.out.aY.cell (p:=⟨be,_,none⟩) cO).trans (hce 1 _ rfl);have g2:=(HT.out.aY.cell (p:=⟨be,_,none⟩) cO).trans (hce 2 _ rfl)
     have g3:=(HT.out.aY.cell (p:=⟨be,_,none⟩) cO).trans (hce 3 _ rfl);have g4:=(HT.out.aY.cell (p:=⟨be,_,none⟩) cO).trans (hce 4 _ rfl);have g5:=(HT.out.aY.cell (p:=⟨be,_,none⟩) cO).trans (hce 5 _ rfl)
     try simp only [Nat.add_zero] at g0 g1 g2 g3 g4 g5
     have Hk:=Lh (Sx.kU hy);clear hre hce hy
     go_wp2_with (first | (go_at_call 60;refine (aH.out).mono ?_;rintro e w5 ⟨A5,n5,c5,rfl,hr⟩;have hb:=hr.aY;have HQ:=Lh hr;replace HT:=(by first | exact Lh (HT.out.call hb) | exact Lh (HT.out.drew.call hb));obtain ⟨r0,r1,r2,r3,r4,r5⟩:=aX.out _ HT.out.kp;clear hb) | (go_at_call 142;refine (uY _ _).mono ?_;rintro e w5 ⟨rfl,hb⟩;replace HT:=(by first | exact Lh (HT.out.call hb) | exact Lh (HT.out.drew.call hb));obtain ⟨r0,r1,r2,r3,r4,r5⟩:=aX.out _ HT.out.kp;clear hb) | (at_builtin;have ex:=TS.lit (k:=1) 51 HT.out [Sx.bI 59] rfl rfl (by have:=HQ.out.len;have b1:=Bj.out;have b2:=Gt.out;omega);refine aI rfl _ _ _ rfl rfl rfl ex ?_;clear ex;rintro v w6 ⟨Wn,n13',Wo,Wp,rfl,hn,hL,ht⟩;have Wq:=Lh hn;have LG:=Lh hL;replace HT:=Lh ht;clear hn hL ht;obtain ⟨r0,r1,r2,r3,r4,r5⟩:=aX.out _ HT.out.kp) | (at_builtin;have ex:=TS.app (d:=c5) 51 HT.out HQ.out.lies HQ.out.len (by have:=HQ.out.len;have b2:=Gt.out;omega);refine aI rfl _ _ _ rfl rfl rfl ex ?_;clear ex;rintro v w6 ⟨Od,n12',Oe,Og,rfl,hn,hL,ht⟩;have Bj:=Lh hn;have Bn:=Lh hL;replace HT:=Lh ht;clear hn hL ht;obtain ⟨r0,r1,r2,r3,r4,r5⟩:=aX.out _ HT.out.kp))
     go_roundg (gk - 1)
     all_goals first
      | omega
      | exact ⟨i+1,_,_,_,_,by go_num,by omega,rfl,HT,Lh (by rw [LG.out,Bn.out,HL.out,Hk.out];simp)⟩
    ·obtain rfl:i=m:=by omega
     have hmk:ks.take i=ks:=by rw [Hm.out];exact List.take_length
     rw[hmk] at HL Gt;go_wp2_with (first | (go_at_call 142;refine (uY _ _).mono ?_;rintro e w5 ⟨rfl,hb⟩;replace HT:=(by first | exact Lh (HT.out.call hb) | exact Lh (HT.out.drew.call hb));obtain ⟨r0,r1,r2,r3,r4,r5⟩:=aX.out _ HT.out.kp;clear hb) | (at_builtin;have ex:=TS.lit (k:=1) 51 HT.out [Sx.bI 125] rfl rfl (by have b2:=Gt.out;omega);refine aI rfl _ _ _ rfl rfl rfl ex ?_;clear ex;rintro v w6 ⟨Ws,n14',Wt,LH,rfl,hn,hL,ht⟩;have Wu:=Lh hn;have LJ:=Lh hL;replace HT:=Lh ht;clear hn hL ht;obtain ⟨r0,r1,r2,r3,r4,r5⟩:=aX.out _ HT.out.kp))
     go_ret;have e:LH=Sx.aF (.mk 1 co nm n d ks):=by rw [LJ.out,HL.out,mX.out,Sx.aF];simp
     rw[←e];exact ⟨_,_,_,rfl,(HT.out.onto (KP.below HB0.out)).re (by first | rfl | omega)⟩
  ·have y0:=rX.out.cell 1;simp at y0;go_wp2_with fail;refine (sj _ _).mono ?_;rintro e w1 ⟨rfl,hb⟩;have HB1:=bT HB0 hb;have HT:=Lh (TS.start (V:=W) (l:=[Sx.av (Sx.ruleWords.getD ((2:Int) - 1).toNat [])]) (n:=1) (cs:=#[.int .i64 1,.string ⟨#[97,110,121]⟩,.int .i64 0,.int .i64 0]) HB1.out (KP.below hb) rfl (by simp) rfl);obtain ⟨r0,r1,r2,r3,r4,r5⟩:=aX.out _ HT.out.kp;clear hb y0
   go_wp2_with (first | (go_at_call 142;refine (uY _ _).mono ?_;rintro e w5 ⟨rfl,hb⟩;replace HT:=(by first | exact Lh (HT.out.call hb) | exact Lh (HT.out.drew.call hb));obtain ⟨r0,r1,r2,r3,r4,r5⟩:=aX.out _ HT.out.kp;clear hb) | (at_builtin;have ex:=TS.lit (k:=1) 51 HT.out [Sx.bI 123] rfl rfl (by omega);refine aI rfl _ _ _ rfl rfl rfl ex ?_;clear ex;rintro v w6 ⟨wm,n1',c1',tq,rfl,hn,hL,ht⟩;have mq:=Lh hn;have mX:=Lh hL;replace HT:=Lh ht;clear hn hL ht;obtain ⟨r0,r1,r2,r3,r4,r5⟩:=aX.out _ HT.out.kp))
   have hnk:n1'+(Sx.bC ks).length≤60000:=by have a1:=mq.out;have:=HLEN.out;rw[Sx.aF] at this;simp at this;omega
   have hnl:=HT.out.len
   go_loopg [4,5] m (fun gk v4 v5 wr=>∃ (i n' c':Nat) (A':Option Addr) (L':List Lx.Tok),v5 = .int .i64 i∧i+gk=m∧v4 = .slice A' n' c'∧Hid (TS w W L' A' n' c' wr)∧Hid (L'=tq++Sx.bC (ks.take i)))
   case atStart=>exact ⟨0,_,_,_,_,rfl,by omega,rfl,HT,Lh (by simp [Sx.bC])⟩
   case round=>
    obtain ⟨i,n',c',A',L',rfl,hi,rfl,HT,HL⟩:=hrel;obtain ⟨r0,r1,r2,r3,r4,r5⟩:=aX.out _ HT.out.kp;have Gt:=Lh (show n'=n1'+(Sx.bC (ks.take i)).length by rw [←HT.out.len,HL.out,List.length_append,hnl])
    by_cases hlt:i < m
    ·obtain ⟨y,hy⟩:∃ y,ks[i]?=some y:=⟨_,List.getElem?_eq_getElem (by have:=Hm.out;omega)⟩
     obtain ⟨be,oe,ce,rfl,cO,hre,hce⟩:=HR.out.at_ i _ hy;have hl2:=Sx.yu (ks:=ks) (i+1);rw[Sx.kU hy] at hl2;simp only[List.length_append,List.length_singleton] at hl2;have aH:=Lh (IH.out y (List.mem_of_getElem? hy) (by omega) _ _ (cu HT.out.aY hre));obtain ⟨i0,i1,s2,i3,i4,A7,n7,c7,rfl⟩:=bG hre;have hbe:be < wr.heap.size:=Nat.lt_of_lt_of_le cO HT.out.aY.size;have g0:=(HT.out.aY.cell (p:=⟨be,_,none⟩) cO).trans (hce 0 _ rfl);have g1:=(HT.out.aY.cell (p:=⟨be,_,none⟩) cO).trans (hce 1 _ rfl);have g2:=(HT.out.aY.cell (p:=⟨be,_,none⟩) cO).trans (hce 2 _ rfl)
     have g3:=(HT.out.aY.cell (p:=⟨be,_,none⟩) cO).trans (hce 3 _ rfl);have g4:=(HT.out.aY.cell (p:=⟨be,_,none⟩) cO).trans (hce 4 _ rfl);have g5:=(HT.out.aY.cell (p:=⟨be,_,none⟩) cO).trans (hce 5 _ rfl)
     try simp only [Nat.add_zero] at g0 g1 g2 g3 g4 g5
     have Hk:=Lh (Sx.kU hy);clear hre hce hy
     go_wp2_with (first | (go_at_call 60;refine (aH.out).mono ?_;rintro e w5 ⟨A5,n5,c5,rfl,hr⟩;have hb:=hr.aY;have HQ:=Lh hr;replace HT:=(by first | exact Lh (HT.out.call hb) | exact Lh (HT.out.drew.call hb));obtain ⟨r0,r1,r2,r3,r4,r5⟩:=aX.out _ HT.out.kp;clear hb) | (go_at_call 142;refine (uY _ _).mono ?_;rintro e w5 ⟨rfl,hb⟩;replace HT:=(by first | exact Lh (HT.out.call hb) | exact Lh (HT.out.drew.call hb));obtain ⟨r0,r1,r2,r3,r4,r5⟩:=aX.out _ HT.out.kp;clear hb) | (at_builtin;have ex:=TS.lit (k:=1) 51 HT.out [Sx.bI 59] rfl rfl (by have:=HQ.out.len;have b1:=Bj.out;have b2:=Gt.out;omega);refine aI rfl _ _ _ rfl rfl rfl ex ?_;clear ex;rintro v w6 ⟨Wn,n13',Wo,Wp,rfl,hn,hL,ht⟩;have Wq:=Lh hn;have LG:=Lh hL;replace HT:=Lh ht;clear hn hL ht;obtain ⟨r0,r1,r2,r3,r4,r5⟩:=aX.out _ HT.out.kp) | (at_builtin;have ex:=TS.app (d:=c5) 51 HT.out HQ.out.lies HQ.out.len (by have:=HQ.out.len;have b2:=Gt.out;omega);refine aI rfl _ _ _ rfl rfl rfl ex ?_;clear ex;rintro v w6 ⟨Od,n12',Oe,Og,rfl,hn,hL,ht⟩;have Bj:=Lh hn;have Bn:=Lh hL;replace HT:=Lh ht;clear hn hL ht;obtain ⟨r0,r1,r2,r3,r4,r5⟩:=aX.out _ HT.out.kp))
     go_roundg (gk - 1)
     all_goals first
      | omega
      | exact ⟨i+1,_,_,_,_,by go_num,by omega,rfl,HT,Lh (by rw [LG.out,Bn.out,HL.out,Hk.out];simp)⟩
    ·obtain rfl:i=m:=by omega
     have hmk:ks.take i=ks:=by rw [Hm.out];exact List.take_length
     rw[hmk] at HL Gt;go_wp2_with (first | (go_at_call 142;refine (uY _ _).mono ?_;rintro e w5 ⟨rfl,hb⟩;replace HT:=(by first | exact Lh (HT.out.call hb) | exact Lh (HT.out.drew.call hb));obtain ⟨r0,r1,r2,r3,r4,r5⟩:=aX.out _ HT.out.kp;clear hb) | (at_builtin;have ex:=TS.lit (k:=1) 51 HT.out [Sx.bI 125] rfl rfl (by have b2:=Gt.out;omega);refine aI rfl _ _ _ rfl rfl rfl ex ?_;clear ex;rintro v w6 ⟨Ws,n14',Wt,LH,rfl,hn,hL,ht⟩;have Wu:=Lh hn;have LJ:=Lh hL;replace HT:=Lh ht;clear hn hL ht;obtain ⟨r0,r1,r2,r3,r4,r5⟩:=aX.out _ HT.out.kp))
     go_ret;have e:LH=Sx.aF (.mk 2 co nm n d ks):=by rw [LJ.out,HL.out,mX.out,Sx.aF];simp
     rw[←e];exact ⟨_,_,_,rfl,(HT.out.onto (KP.below HB0.out)).re (by first | rfl | omega)⟩
  ·have y0:=rX.out.cell 2;simp at y0;go_wp2_with fail;refine (sj _ _).mono ?_;rintro e w1 ⟨rfl,hb⟩;have HB1:=bT HB0 hb;have HT:=Lh (TS.start (V:=W) (l:=[Sx.av (Sx.ruleWords.getD ((3:Int) - 1).toNat [])]) (n:=1) (cs:=#[.int .i64 1,.string ⟨#[108,101,97,115,116]⟩,.int .i64 0,.int .i64 0]) HB1.out (KP.below hb) rfl (by simp) rfl);obtain ⟨r0,r1,r2,r3,r4,r5⟩:=aX.out _ HT.out.kp;clear hb y0
   go_wp2_with (first | (go_at_call 141;refine (EN _ _).mono ?_;rintro e w5 ⟨rfl,hb⟩;replace HT:=(by first | exact Lh (HT.out.call hb) | exact Lh (HT.out.drew.call hb));obtain ⟨r0,r1,r2,r3,r4,r5⟩:=aX.out _ HT.out.kp;clear hb) | (go_at_call 142;refine (uY _ _).mono ?_;rintro e w5 ⟨rfl,hb⟩;replace HT:=(by first | exact Lh (HT.out.call hb) | exact Lh (HT.out.drew.call hb));obtain ⟨r0,r1,r2,r3,r4,r5⟩:=aX.out _ HT.out.kp;clear hb) | (at_builtin;have ex:=TS.lit (k:=1) 51 HT.out [Sx.bI 123] rfl rfl (by have a1:=mq.out;omega);refine aI rfl _ _ _ rfl rfl rfl ex ?_;clear ex;rintro v w6 ⟨Pm,Pn,c2',Ob,rfl,hn,hL,ht⟩;have Ji:=Lh hn;have HL2:=Lh hL;replace HT:=Lh ht;clear hn hL ht;obtain ⟨r0,r1,r2,r3,r4,r5⟩:=aX.out _ HT.out.kp) | (at_builtin;have ex:=TS.lit (k:=1) 51 HT.out [Sx.aW n] rfl rfl (by omega);refine aI rfl _ _ _ rfl rfl rfl ex ?_;clear ex;rintro v w6 ⟨wm,n1',c1',tq,rfl,hn,hL,ht⟩;have mq:=Lh hn;have mX:=Lh hL;replace HT:=Lh ht;clear hn hL ht;obtain ⟨r0,r1,r2,r3,r4,r5⟩:=aX.out _ HT.out.kp))
   have hnk:Pn+(Sx.bC ks).length≤60000:=by have a1:=mq.out;have a2:=Ji.out;have:=HLEN.out;rw[Sx.aF] at this;simp at this;omega
   have hnl:=HT.out.len
   go_loopg [4,5] m (fun gk v4 v5 wr=>∃ (i n' c':Nat) (A':Option Addr) (L':List Lx.Tok),v5 = .int .i64 i∧i+gk=m∧v4 = .slice A' n' c'∧Hid (TS w W L' A' n' c' wr)∧Hid (L'=Ob++Sx.bC (ks.take i)))
   case atStart=>exact ⟨0,_,_,_,_,rfl,by omega,rfl,HT,Lh (by simp [Sx.bC])⟩
   case round=>
    obtain ⟨i,n',c',A',L',rfl,hi,rfl,HT,HL⟩:=hrel;obtain ⟨r0,r1,r2,r3,r4,r5⟩:=aX.out _ HT.out.kp;have Gt:=Lh (show n'=Pn+(Sx.bC (ks.take i)).length by rw [←HT.out.len,HL.out,List.length_append,hnl])
    by_cases hlt:i < m
    ·obtain ⟨y,hy⟩:∃ y,ks[i]?=some y:=⟨_,List.getElem?_eq_getElem (by have:=Hm.out;omega)⟩
     obtain ⟨be,oe,ce,rfl,cO,hre,hce⟩:=HR.out.at_ i _ hy;have hl2:=Sx.yu (ks:=ks) (i+1);rw[Sx.kU hy] at hl2;simp only[List.length_append,List.length_singleton] at hl2;have aH:=Lh (IH.out y (List.mem_of_getElem? hy) (by omega) _ _ (cu HT.out.aY hre));obtain ⟨i0,i1,s2,i3,i4,A7,n7,c7,rfl⟩:=bG hre;have hbe:be < wr.heap.size:=Nat.lt_of_lt_of_le cO HT.out.aY.size;have g0:=(HT.out.aY.cell (p:=⟨be,_,none⟩) cO).trans (hce 0 _ rfl);have g1:=(HT.out.aY.cell (p:=⟨be,_,none⟩) cO).trans (hce 1 _ rfl);have g2:=(HT.out.aY.cell (p:=⟨be,_,none⟩) cO).trans (hce 2 _ rfl)
     have g3:=(HT.out.aY.cell (p:=⟨be,_,none⟩) cO).trans (hce 3 _ rfl);have g4:=(HT.out.aY.cell (p:=⟨be,_,none⟩) cO).trans (hce 4 _ rfl);have g5:=(HT.out.aY.cell (p:=⟨be,_,none⟩) cO).trans (hce 5 _ rfl)
     try simp only [Nat.add_zero] at g0 g1 g2 g3 g4 g5
     have Hk:=Lh (Sx.kU hy);clear hre hce hy
     go_wp2_with (first | (go_at_call 60;refine (aH.out).mono ?_;rintro e w5 ⟨A5,n5,c5,rfl,hr⟩;have hb:=hr.aY;have HQ:=Lh hr;replace HT:=(by first | exact Lh (HT.out.call hb) | exact Lh (HT.out.drew.call hb));obtain ⟨r0,r1,r2,r3,r4,r5⟩:=aX.out _ HT.out.kp;clear hb) | (go_at_call 142;refine (uY _ _).mono ?_;rintro e w5 ⟨rfl,hb⟩;replace HT:=(by first | exact Lh (HT.out.call hb) | exact Lh (HT.out.drew.call hb));obtain ⟨r0,r1,r2,r3,r4,r5⟩:=aX.out _ HT.out.kp;clear hb) | (at_builtin;have ex:=TS.lit (k:=1) 51 HT.out [Sx.bI 59] rfl rfl (by have:=HQ.out.len;have b1:=Bj.out;have b2:=Gt.out;omega);refine aI rfl _ _ _ rfl rfl rfl ex ?_;clear ex;rintro v w6 ⟨Wn,n13',Wo,Wp,rfl,hn,hL,ht⟩;have Wq:=Lh hn;have LG:=Lh hL;replace HT:=Lh ht;clear hn hL ht;obtain ⟨r0,r1,r2,r3,r4,r5⟩:=aX.out _ HT.out.kp) | (at_builtin;have ex:=TS.app (d:=c5) 51 HT.out HQ.out.lies HQ.out.len (by have:=HQ.out.len;have b2:=Gt.out;omega);refine aI rfl _ _ _ rfl rfl rfl ex ?_;clear ex;rintro v w6 ⟨Od,n12',Oe,Og,rfl,hn,hL,ht⟩;have Bj:=Lh hn;have Bn:=Lh hL;replace HT:=Lh ht;clear hn hL ht;obtain ⟨r0,r1,r2,r3,r4,r5⟩:=aX.out _ HT.out.kp))
     go_roundg (gk - 1)
     all_goals first
      | omega
      | exact ⟨i+1,_,_,_,_,by go_num,by omega,rfl,HT,Lh (by rw [LG.out,Bn.out,HL.out,Hk.out];simp)⟩
    ·obtain rfl:i=m:=by omega
     have hmk:ks.take i=ks:=by rw [Hm.out];exact List.take_length
     rw[hmk] at HL Gt;go_wp2_with (first | (go_at_call 142;refine (uY _ _).mono ?_;rintro e w5 ⟨rfl,hb⟩;replace HT:=(by first | exact Lh (HT.out.call hb) | exact Lh (HT.out.drew.call hb));obtain ⟨r0,r1,r2,r3,r4,r5⟩:=aX.out _ HT.out.kp;clear hb) | (at_builtin;have ex:=TS.lit (k:=1) 51 HT.out [Sx.bI 125] rfl rfl (by have b2:=Gt.out;omega);refine aI rfl _ _ _ rfl rfl rfl ex ?_;clear ex;rintro v w6 ⟨Ws,n14',Wt,LH,rfl,hn,hL,ht⟩;have Wu:=Lh hn;have LJ:=Lh hL;replace HT:=Lh ht;clear hn hL ht;obtain ⟨r0,r1,r2,r3,r4,r5⟩:=aX.out _ HT.out.kp))
     go_ret;have e:LH=Sx.aF (.mk 3 co nm n d ks):=by rw [LJ.out,HL.out,HL2.out,mX.out,Sx.aF];simp
     rw[←e];exact ⟨_,_,_,rfl,(HT.out.onto (KP.below HB0.out)).re (by first | rfl | omega)⟩
theorem wN:∀ (k:Nat) (r:Sx.Rule),Sx.aO k r=true→(Sx.aF r).length≤60000→∀ (w:World) (ca:List Value),aB w (Old w) r ca→Calls Tryz.prog 60 #[.agg ca.toArray] w (jD (Sx.aF r) w)
 | 0,r,h,_,_,_,_=>by cases r;simp[Sx.aO] at h
 | k+1,.mk op co nm n d ks,h,hlen,w,ca,hr=>by
  rw[Sx.aO,Bool.and_eq_true,Bool.and_eq_true] at h;obtain ⟨⟨-,vD⟩,hcase⟩:=h;have hop:(op=1∨op=2∨op=3)∨((op=4∧ks.length=1)∨op=5∨op=6∨op=7∨op=8∨op=9):=by
   by_cases g1:op=1 <;> by_cases g2:op=2 <;> by_cases g3:op=3 <;> by_cases g4:op=4 <;> by_cases g5:op=5 <;> by_cases g6:op=6 <;> by_cases g7:op=7 <;> by_cases g8:op=8 <;> by_cases g9:op=9 <;> simp_all
  rcases hop with hop | hop
  ·exact OM k (wN k) op co nm n d ks hop vD hlen w ca hr
  ·exact OL k (wN k) op co nm n d ks hop vD hlen w ca hr
theorem SE (w:World):Calls Tryz.prog 101 #[] w fun e w'=>e = .returned (.slice (some ⟨w.heap.size,0,none⟩) 5 5)∧Below w.heap.size w w'∧nQ w' w.heap.size 0 Sx.kindWords:=by
 obtain ⟨W1,hW1⟩:∃ W1,W1=w.alloc (.cells #[.string ⟨#[97,100,109,105,116]⟩,.string ⟨#[99,108,97,115,115]⟩,.string ⟨#[102,101,101]⟩,.string ⟨#[104,111,110,111,117,114]⟩,.string ⟨#[100,101,103,114,101,101]⟩] 9):=⟨_,rfl⟩
 obtain ⟨HX,hb⟩:=Y0 hW1;have HB:=Lh hb;have PV:nQ W1 w.heap.size 0 Sx.kindWords:=⟨HX.out.lt,fun i x hx=>by
  rw[Nat.zero_add,HX.out.cell]
  match i,hx with
  | 0,hx=>exact congrArg some (congrArg Value.string (congrArg Lx.bs (Option.some.inj hx)))
  | 1,hx=>exact congrArg some (congrArg Value.string (congrArg Lx.bs (Option.some.inj hx)))
  | 2,hx=>exact congrArg some (congrArg Value.string (congrArg Lx.bs (Option.some.inj hx)))
  | 3,hx=>exact congrArg some (congrArg Value.string (congrArg Lx.bs (Option.some.inj hx)))
  | 4,hx=>exact congrArg some (congrArg Value.string (congrArg Lx.bs (Option.some.inj hx)))
  | i+5,hx=>simp [Sx.kindWords] at hx⟩
 have HW:=Lh PV;clear HX hb PV;go_enter Tryz.func101,Tryz.ntmps101;go_wp2_with fail;rw[←hW1];go_ret;exact ⟨rfl,HB.out,HW.out⟩
theorem SF (w:World):Calls Tryz.prog 102 #[] w fun e w'=>e = .returned (.slice (some ⟨w.heap.size,0,none⟩) 3 3)∧Below w.heap.size w w'∧nQ w' w.heap.size 0 Sx.whenWords:=by
 obtain ⟨W1,hW1⟩:∃ W1,W1=w.alloc (.cells #[.string ⟨#[97,110,121]⟩,.string ⟨#[117,112]⟩,.string ⟨#[100,111,119,110]⟩] 9):=⟨_,rfl⟩
 obtain ⟨HX,hb⟩:=Y0 hW1;have HB:=Lh hb;have PV:nQ W1 w.heap.size 0 Sx.whenWords:=⟨HX.out.lt,fun i x hx=>by
  rw[Nat.zero_add,HX.out.cell]
  match i,hx with
  | 0,hx=>exact congrArg some (congrArg Value.string (congrArg Lx.bs (Option.some.inj hx)))
  | 1,hx=>exact congrArg some (congrArg Value.string (congrArg Lx.bs (Option.some.inj hx)))
  | 2,hx=>exact congrArg some (congrArg Value.string (congrArg Lx.bs (Option.some.inj hx)))
  | i+3,hx=>simp [Sx.whenWords] at hx⟩
 have HW:=Lh PV;clear HX hb PV;go_enter Tryz.func102,Tryz.ntmps102;go_wp2_with fail;rw[←hW1];go_ret;exact ⟨rfl,HB.out,HW.out⟩
theorem Lu (w:World):Calls Tryz.prog 103 #[] w fun e w'=>e = .returned (.slice (some ⟨w.heap.size,0,none⟩) 3 3)∧Below w.heap.size w w'∧nQ w' w.heap.size 0 Sx.actionWords:=by
 obtain ⟨W1,hW1⟩:∃ W1,W1=w.alloc (.cells #[.string ⟨#[107,101,101,112]⟩,.string ⟨#[114,101,111,112,101,110]⟩,.string ⟨#[114,101,118,101,114,115,101]⟩] 9):=⟨_,rfl⟩
 obtain ⟨HX,hb⟩:=Y0 hW1;have HB:=Lh hb;have PV:nQ W1 w.heap.size 0 Sx.actionWords:=⟨HX.out.lt,fun i x hx=>by
  rw[Nat.zero_add,HX.out.cell]
  match i,hx with
  | 0,hx=>exact congrArg some (congrArg Value.string (congrArg Lx.bs (Option.some.inj hx)))
  | 1,hx=>exact congrArg some (congrArg Value.string (congrArg Lx.bs (Option.some.inj hx)))
  | 2,hx=>exact congrArg some (congrArg Value.string (congrArg Lx.bs (Option.some.inj hx)))
  | i+3,hx=>simp [Sx.actionWords] at hx⟩
 have HW:=Lh PV;clear HX hb PV;go_enter Tryz.func103,Tryz.ntmps103;go_wp2_with fail;rw[←hW1];go_ret;exact ⟨rfl,HB.out,HW.out⟩
end Go.Proofs.YtjonaidancomgaaGreatDoor
