/- Parts of the proof, joined into one text: RpDefA, RpOpt, RpTks. -/
import Derived.Test.YtjonaidancomgaaGreatDoorPRpRulA
import Derived.Test.YtjonaidancomgaaGreatDoorPSxLen

namespace Go.Proofs.YtjonaidancomgaaGreatDoor
open Go.RowKit

def vFeeB (_:World) (a:Sx.Fee) (vs:List Value):Prop:=∃ cs,vs = [.agg cs.toArray]∧FeeAt a cs
def vPairB (_:World) (a:Sx.Pair) (vs:List Value):Prop:=∃ cs,vs = [.agg cs.toArray]∧PairAt a cs
def vClsB (_:World) (a:Sx.Cls) (vs:List Value):Prop:=∃ cs,vs = [.agg cs.toArray]∧ClsAt a cs
theorem pst2 {w:World} {b:Nat} {t:TypeId} {z0 z1:Value} (h:Blk w b t #[z0,z1]) (a0 a1:Value):∃ W:World,W=(w.setCell ⟨b,0,none⟩ a0).setCell ⟨b,1,none⟩ a1∧Blk W b t #[a0,a1]∧((∀ k,k≠b→W.heap[k]?=w.heap[k]?)∧W.heap.size=w.heap.size)∧∀ (B:Nat) (w0:World),Below B w0 w→B≤b→Below B w0 W:=by
 refine ⟨_,rfl,?_,⟨fun k hk=>?_,by simp [World.setCell]⟩,fun B w0 hb hB=>(hb.setCell (p:=⟨b,0,none⟩) hB a0).setCell (p:=⟨b,1,none⟩) hB a1⟩
 ·have:=(h.set 0 a0).set 1 a1
  simpa using this
 ·rw[Below.heap_setCell _ ⟨b,1,none⟩ _ k hk,Below.heap_setCell _ ⟨b,0,none⟩ _ k hk]
theorem pst4 {w:World} {b:Nat} {t:TypeId} {z0 z1 z2 z3:Value} (h:Blk w b t #[z0,z1,z2,z3]) (a0 a1 a2 a3:Value):∃ W:World,W=(((w.setCell ⟨b,0,none⟩ a0).setCell ⟨b,1,none⟩ a1).setCell ⟨b,2,none⟩ a2).setCell ⟨b,3,none⟩ a3∧Blk W b t #[a0,a1,a2,a3]∧((∀ k,k≠b→W.heap[k]?=w.heap[k]?)∧W.heap.size=w.heap.size)∧∀ (B:Nat) (w0:World),Below B w0 w→B≤b→Below B w0 W:=by
 refine ⟨_,rfl,?_,⟨fun k hk=>?_,by simp [World.setCell]⟩,fun B w0 hb hB=>(((hb.setCell (p:=⟨b,0,none⟩) hB a0).setCell (p:=⟨b,1,none⟩) hB a1).setCell (p:=⟨b,2,none⟩) hB a2).setCell (p:=⟨b,3,none⟩) hB a3⟩
 ·have:=(((h.set 0 a0).set 1 a1).set 2 a2).set 3 a3
  simpa using this
 ·rw[Below.heap_setCell _ ⟨b,3,none⟩ _ k hk,Below.heap_setCell _ ⟨b,2,none⟩ _ k hk,Below.heap_setCell _ ⟨b,1,none⟩ _ k hk,Below.heap_setCell _ ⟨b,0,none⟩ _ k hk]
theorem frees4 {w:World} {b:Nat} {t:TypeId} {cs:Array Value} (h:Blk w b t cs):w.frozen? ⟨b,0,none⟩=false∧w.frozen? ⟨b,1,none⟩=false∧w.frozen? ⟨b,2,none⟩=false∧w.frozen? ⟨b,3,none⟩=false:=⟨h.free 0,h.free 1,h.free 2,h.free 3⟩
set_option maxRecDepth 20000 in
set_option maxHeartbeats 2000000 in
theorem pFee (T:List Lx.Tok) (A:Option Addr) (c:Nat) (last:Int) (s:Sx.R Unit) (k e p:Int) (w:World) (hc:PCtx T A w) (hp:PAt T s k e p) :
  Calls Tryz.prog 36 #[pv A T.length c k last e p] w (PRead T A c last (vFeeB) (Sx.go s (fun l=>(Sx.word last Sx.wFee l).bind fun _ l=>Sx.fee last l)) w):=by
 have HC:=Lh hc;have HP0:=Lh hp
 have hlen:=hc.toks.len
 obtain ⟨R,hR⟩:∃ R,R=Sx.go s (fun l=>(Sx.word last Sx.wFee l).bind fun _ l=>Sx.fee last l):=⟨_,rfl⟩
 obtain ⟨n,hn⟩:∃ n,n=T.length:=⟨_,rfl⟩
 rw[←hR]
 unfold PRead
 have Hn:=Lh hn;have HR0:=Lh hR
 unfold pv
 rw[←hn] at hlen ⊢
 obtain ⟨W1,W2,W3,hW1,hW2,hW3,p1,p2,p3,hb,hsz⟩:=pbox6 w 86 #[.string ⟨#[]⟩,.int .i64 0] (.slice A n c) (.int .i64 k) (.int .i64 last) (.int .i64 e) (.int .i64 p)
 have HB:=Lh hb;have HX_p:=Lh p1;have HX_a:=Lh p2;have HX_q:=Lh p3
 clear hc hp hn hb p1 p2 p3 hR
 go_enter Tryz.func36,Tryz.ntmps36
 go_upto_region 1 with fail
 rw[←hW1,←hW2,←hW3]
 clear hW1 hW2 hW3
 obtain ⟨X1,hX1⟩:∃ V,V=W3.alloc (.cells #[.string ⟨#[]⟩,.int .i64 0] 86):=⟨_,rfl⟩
 obtain ⟨HX_x,hb⟩:=bnw hX1
 have hgz:=hb.size
 replace HB:=bmb HB hb
 replace HX_p:=bmv HX_p hb
 replace HX_a:=bmv HX_a hb
 replace HX_q:=bmv HX_q hb
 clear hb
 replace HX_x:=bat (b:=w.heap.size+1+1+1) HX_x (by omega)
 go_upto_region 2 with fail
 rw[←hX1]
 clear hX1
 obtain ⟨c_p0,c_p1,c_p2,c_p3,c_p4,z_p⟩:=cells5 HX_p.out
 have HW:=Lh (fun w' h=>pWord T A c last ⟨#[102,101,101]⟩ s (k) (e) (p) w' h HP0.out)
 rw[show Sx.need last 1 (⟨#[102,101,101]⟩:ByteArray).data.toList=Sx.word last Sx.wFee from rfl] at HW
 unfold PPost pv at HW
 rw[←Hn.out] at HW
 obtain ⟨s1,hs⟩:∃ s',s'=Sx.go s (Sx.word last Sx.wFee):=⟨_,rfl⟩
 rw[←hs] at HW
 have HR1:=Lh (HR0.out.trans ((Sx.go_unit _ _ _).trans (by rw [←hs])))
 clear hs HR0
 go_wp2_with fail
 refine (HW.out _ (HC.out.next HB.out)).mono ?_
 rintro e' v1 ⟨k1,x1,p1,rfl,ha,hb⟩
 have HP1:=Lh ha
 clear ha HW
 clear c_p0 c_p1 c_p2 c_p3 c_p4 z_p
 have hgz:=hb.size
 replace HB:=bmb HB hb
 replace HX_p:=bmv HX_p hb
 replace HX_a:=bmv HX_a hb
 replace HX_q:=bmv HX_q hb
 replace HX_x:=bmv HX_x hb
 clear hb
 have HW:=Lh (fun w' h=>pName T A c last s1 (k1) (x1) (p1) w' h HP1.out)
 unfold PRead pv at HW
 rw[←Hn.out] at HW
 obtain ⟨s2,hs⟩:∃ s',s'=(Sx.go s1 (Sx.name last)).void:=⟨_,rfl⟩
 go_wp2_with fail
 refine (HW.out _ (HC.out.next HB.out)).mono ?_
 rintro e' v2 ⟨nm,vs,k2,x2,p2,rfl,hv,hvs,ha,hb⟩
 rw[←hs] at ha
 have HP2:=Lh ha
 have HR2:=Lh (HR1.out.trans ((Sx.R.Val.step hv _).trans (by rw [←hs])))
 obtain ⟨hvs,hl⟩:=hvs
 unfold strV at hvs
 subst hvs
 have HL:=Lh hl
 clear hl
 simp only[List.cons_append,List.nil_append]
 clear hs ha hv HW HR1
 have hgz:=hb.size
 replace HB:=bmb HB hb
 replace HX_p:=bmv HX_p hb
 replace HX_a:=bmv HX_a hb
 replace HX_q:=bmv HX_q hb
 replace HX_x:=bmv HX_x hb
 clear hb
 obtain ⟨c_p0,c_p1,c_p2,c_p3,c_p4,z_p⟩:=cells5 HX_p.out
 obtain ⟨f_p0,f_p1,f_p2,f_p3,f_p4⟩:=frees5 HX_p.out
 obtain ⟨c_x0,c_x1,z_x⟩:=cells2 HX_x.out
 obtain ⟨f_x0,f_x1⟩:=frees2 HX_x.out
 obtain ⟨A0,hA0⟩:∃ V,V=v2.setCell ⟨(w.heap.size+1+1+1),0,none⟩ (.string (Lx.bs nm)):=⟨_,rfl⟩
 have hsz_A0:=bss hA0
 replace HB:=bsb hA0 HB (by omega)
 replace HX_p:=bst hA0 HX_p (by omega)
 replace HX_a:=bst hA0 HX_a (by omega)
 replace HX_q:=bst hA0 HX_q (by omega)
 replace HX_x:=bsc hA0 HX_x (cs':=#[.string (Lx.bs nm),.int .i64 0]) (by simp)
 obtain ⟨Ap,hAp,hxn,hfar,hbn⟩:=pstoreB HX_p.out (.slice A n c) (.int .i64 k2) (.int .i64 last) (.int .i64 x2) (.int .i64 p2)
 replace HB:=Lh (hbn w.heap.size w HB.out (by omega))
 replace HX_a:=bfr hfar.1 HX_a (by omega)
 replace HX_q:=bfr hfar.1 HX_q (by omega)
 replace HX_x:=bfr hfar.1 HX_x (by omega)
 replace HX_p:=Lh hxn
 have hsz_Ap:=hfar.2
 clear hxn hfar hbn
 rw[hA0] at hAp
 go_upto_region 3 with fail
 rw[←hAp]
 clear hA0 hAp
 clear c_p0 c_p1 c_p2 c_p3 c_p4 z_p f_p0 f_p1 f_p2 f_p3 f_p4 c_x0 c_x1 z_x f_x0 f_x1
 obtain ⟨c_p0,c_p1,c_p2,c_p3,c_p4,z_p⟩:=cells5 HX_p.out
 have HW:=Lh (fun w' h=>pNumber T A c last 0 10000 s2 (k2) (x2) (p2) w' h HP2.out)
 unfold PRead pv at HW
 rw[←Hn.out] at HW
 obtain ⟨s3,hs⟩:∃ s',s'=(Sx.go s2 (Sx.number last 0 10000)).void:=⟨_,rfl⟩
 go_wp2_with fail
 refine (HW.out _ (HC.out.next HB.out)).mono ?_
 rintro e' v3 ⟨cr,vs,k3,x3,p3,rfl,hv,hvs,ha,hb⟩
 rw[←hs] at ha
 have HP3:=Lh ha
 have HR3:=Lh (HR2.out.trans ((Sx.R.Val.step hv _).trans (by rw [←hs])))
 unfold vInts intV at hvs
 subst hvs
 simp only[List.cons_append,List.nil_append]
 clear hs ha hv HW HR2
 clear c_p0 c_p1 c_p2 c_p3 c_p4 z_p
 have hgz:=hb.size
 replace HB:=bmb HB hb
 replace HX_p:=bmv HX_p hb
 replace HX_a:=bmv HX_a hb
 replace HX_q:=bmv HX_q hb
 replace HX_x:=bmv HX_x hb
 clear hb
 obtain ⟨c_p0,c_p1,c_p2,c_p3,c_p4,z_p⟩:=cells5 HX_p.out
 obtain ⟨f_p0,f_p1,f_p2,f_p3,f_p4⟩:=frees5 HX_p.out
 obtain ⟨c_x0,c_x1,z_x⟩:=cells2 HX_x.out
 obtain ⟨f_x0,f_x1⟩:=frees2 HX_x.out
 obtain ⟨B0,hB0⟩:∃ V,V=v3.setCell ⟨(w.heap.size+1+1+1),1,none⟩ (.int .i64 cr):=⟨_,rfl⟩
 have hsz_B0:=bss hB0
 replace HB:=bsb hB0 HB (by omega)
 replace HX_p:=bst hB0 HX_p (by omega)
 replace HX_a:=bst hB0 HX_a (by omega)
 replace HX_q:=bst hB0 HX_q (by omega)
 replace HX_x:=bsc hB0 HX_x (cs':=#[.string (Lx.bs nm),.int .i64 cr]) (by simp)
 obtain ⟨Bp,hBp,hxn,hfar,hbn⟩:=pstoreB HX_p.out (.slice A n c) (.int .i64 k3) (.int .i64 last) (.int .i64 x3) (.int .i64 p3)
 replace HB:=Lh (hbn w.heap.size w HB.out (by omega))
 replace HX_a:=bfr hfar.1 HX_a (by omega)
 replace HX_q:=bfr hfar.1 HX_q (by omega)
 replace HX_x:=bfr hfar.1 HX_x (by omega)
 replace HX_p:=Lh hxn
 have hsz_Bp:=hfar.2
 clear hxn hfar hbn
 rw[hB0] at hBp
 go_upto_region 4 with fail
 rw[←hBp]
 clear hB0 hBp
 clear c_p0 c_p1 c_p2 c_p3 c_p4 z_p f_p0 f_p1 f_p2 f_p3 f_p4 c_x0 c_x1 z_x f_x0 f_x1
 have HSg:=Lh (pSg T A c last 59 s3 (k3) (x3) (p3) Bp.drew ((HC.out.next HB.out).next (Below.refl _ _).drew) HP3.out)
 unfold PPost pv at HSg
 rw[←Hn.out] at HSg
 have HE:Hid (R=Sx.go (Sx.go s3 (Sx.sign last 59)) fun l=>.ok ⟨nm,cr⟩ l):=Lh (HR3.out.trans (Sx.go_unit _ _ _))
 have HV:Hid (R.Val ⟨nm,cr⟩):=Lh (by rw [HE.out];exact .done _ _)
 have HVd:Hid (R.void=Sx.go s3 (Sx.sign last 59)):=Lh (by rw [HE.out,Sx.void_done])
 rw[←HVd.out] at HSg
 clear HE HVd HR3
 obtain ⟨c_p0,c_p1,c_p2,c_p3,c_p4,z_p⟩:=cells5 HX_p.out
 obtain ⟨c_x0,c_x1,z_x⟩:=cells2 HX_x.out
 go_region_law (go_simp;go_at_call 96;refine HSg.out.mono ?_;rintro e w6 ⟨k6,x6,p6,rfl,ha,hb6⟩;have hb:Below Bp.heap.size Bp w6:=Below.trans (Below.refl _ _).drew hb6;have HA:=Lh ha;have HB6:=Lh hb;have HY_a:=bmv HX_a hb;have HY_q:=bmv HX_q hb;have HY_x:=bmv HX_x hb;obtain ⟨d_x0,d_x1,d_z⟩:=cells2 HY_x.out;obtain ⟨y_a0,y_a1,y_z⟩:=cells2 HY_a.out;obtain ⟨g_a0,g_a1⟩:=frees2 HY_a.out;obtain ⟨y_q0,y_q1,y_q2,y_q3,y_q4,y_q⟩:=cells5 HY_q.out;obtain ⟨g_q0,g_q1,g_q2,g_q3,g_q4⟩:=frees5 HY_q.out;clear ha hb6 hb)
 all_goals (try go_wp2_with fail)
 all_goals (
  have hgz:=HB6.out.size
  obtain ⟨W8,hW8,hxn,hfar,hbn⟩:=pst2 HY_a.out (.string (Lx.bs nm)) (.int .i64 cr)
  have HX8:=bfr hfar.1 HY_q (by omega)
  obtain ⟨W9,hW9,hxn9,hfar9,hbn9⟩:=pstoreB HX8.out (.slice A n c) (.int .i64 k6) (.int .i64 last) (.int .i64 x6) (.int .i64 p6)
  have hxa9:=bfr hfar9.1 (Lh hxn) (by omega)
  have hbel:=hbn9 w.heap.size w (hbn w.heap.size w (HB.out.trans (HB6.out.mono HB.out.size)) (by omega)) (by omega)
  have HFar:Hid (∀ b,w.heap.size+1+1 < b→W9.heap[b]?=w6.heap[b]?):=Lh fun b hb=>(hfar9.1 b (by omega)).trans (hfar.1 b (by omega))
  have HSz:Hid (W9.heap.size=w6.heap.size):=Lh (hfar9.2.trans hfar.2)
  rw[hW8] at hW9
  rw[←hW9]
  clear hW9 hW8
  obtain ⟨t0,t1,t2,t3,t4,tz⟩:=cells5 hxn9
  obtain ⟨r0,r1,rz⟩:=cells2 hxa9.out
  exact bodyPost_ret (v:=.tuple #[.agg #[.string (Lx.bs nm),.int .i64 cr],pv A n c k6 last x6 p6]) (by simp [results,Tryz.results36,go_sem,pv,t0,t1,t2,t3,t4,r0,r1]) rfl ⟨_,[.agg #[.string (Lx.bs nm),.int .i64 cr]],_,_,_,rfl,HV.out,⟨_,rfl,rfl,HL.out⟩,HA.out,hbel⟩)
set_option maxRecDepth 20000 in
set_option maxHeartbeats 2000000 in
theorem pSame (T:List Lx.Tok) (A:Option Addr) (c:Nat) (last:Int) (s:Sx.R Unit) (k e p:Int) (w:World) (hc:PCtx T A w) (hp:PAt T s k e p) :
  Calls Tryz.prog 33 #[pv A T.length c k last e p] w (PRead T A c last (vPairB) (Sx.go s (fun l=>(Sx.word last Sx.wSame l).bind fun _ l=>Sx.same last l)) w):=by
 have HC:=Lh hc;have HP0:=Lh hp
 have hlen:=hc.toks.len
 obtain ⟨R,hR⟩:∃ R,R=Sx.go s (fun l=>(Sx.word last Sx.wSame l).bind fun _ l=>Sx.same last l):=⟨_,rfl⟩
 obtain ⟨n,hn⟩:∃ n,n=T.length:=⟨_,rfl⟩
 rw[←hR]
 unfold PRead
 have Hn:=Lh hn;have HR0:=Lh hR
 unfold pv
 rw[←hn] at hlen ⊢
 obtain ⟨W1,W2,W3,hW1,hW2,hW3,p1,p2,p3,hb,hsz⟩:=pbox6 w 71 #[.string ⟨#[]⟩,.string ⟨#[]⟩,.int .i64 0,.int .i64 0] (.slice A n c) (.int .i64 k) (.int .i64 last) (.int .i64 e) (.int .i64 p)
 have HB:=Lh hb;have HX_p:=Lh p1;have HX_a:=Lh p2;have HX_q:=Lh p3
 clear hc hp hn hb p1 p2 p3 hR
 go_enter Tryz.func33,Tryz.ntmps33
 go_upto_region 1 with fail
 rw[←hW1,←hW2,←hW3]
 clear hW1 hW2 hW3
 obtain ⟨X1,hX1⟩:∃ V,V=W3.alloc (.cells #[.string ⟨#[]⟩,.string ⟨#[]⟩,.int .i64 0,.int .i64 0] 71):=⟨_,rfl⟩
 obtain ⟨HX_x,hb⟩:=bnw hX1
 have hgz:=hb.size
 replace HB:=bmb HB hb
 replace HX_p:=bmv HX_p hb
 replace HX_a:=bmv HX_a hb
 replace HX_q:=bmv HX_q hb
 clear hb
 replace HX_x:=bat (b:=w.heap.size+1+1+1) HX_x (by omega)
 go_upto_region 2 with fail
 rw[←hX1]
 clear hX1
 obtain ⟨c_p0,c_p1,c_p2,c_p3,c_p4,z_p⟩:=cells5 HX_p.out
 have HW:=Lh (fun w' h=>pWord T A c last ⟨#[115,97,109,101]⟩ s (k) (e) (p) w' h HP0.out)
 rw[show Sx.need last 1 (⟨#[115,97,109,101]⟩:ByteArray).data.toList=Sx.word last Sx.wSame from rfl] at HW
 unfold PPost pv at HW
 rw[←Hn.out] at HW
 obtain ⟨s1,hs⟩:∃ s',s'=Sx.go s (Sx.word last Sx.wSame):=⟨_,rfl⟩
 rw[←hs] at HW
 have HR1:=Lh (HR0.out.trans ((Sx.go_unit _ _ _).trans (by rw [←hs])))
 clear hs HR0
 go_wp2_with fail
 refine (HW.out _ (HC.out.next HB.out)).mono ?_
 rintro e' v1 ⟨k1,x1,p1,rfl,ha,hb⟩
 have HP1:=Lh ha
 clear ha HW
 clear c_p0 c_p1 c_p2 c_p3 c_p4 z_p
 have hgz:=hb.size
 replace HB:=bmb HB hb
 replace HX_p:=bmv HX_p hb
 replace HX_a:=bmv HX_a hb
 replace HX_q:=bmv HX_q hb
 replace HX_x:=bmv HX_x hb
 clear hb
 have HW:=Lh (fun w' h=>pRef T A c last s1 (k1) (x1) (p1) w' h HP1.out)
 unfold PRead pv at HW
 rw[←Hn.out] at HW
 obtain ⟨s2,hs⟩:∃ s',s'=(Sx.go s1 (Sx.ref last)).void:=⟨_,rfl⟩
 go_wp2_with fail
 refine (HW.out _ (HC.out.next HB.out)).mono ?_
 rintro e' v2 ⟨⟨na,xa⟩,vs,k2,x2,p2,rfl,hv,hvs,ha,hb⟩
 rw[←hs] at ha
 have HP2:=Lh ha
 have HR2:=Lh (HR1.out.trans ((Sx.R.Val.step hv _).trans (by rw [←hs])))
 obtain ⟨hvs,hl⟩:=hvs
 unfold strV intV at hvs
 dsimp only at hvs hl
 subst hvs
 have HL1:=Lh hl
 clear hl
 simp only[List.cons_append,List.nil_append]
 clear hs ha hv HW HR1
 have hgz:=hb.size
 replace HB:=bmb HB hb
 replace HX_p:=bmv HX_p hb
 replace HX_a:=bmv HX_a hb
 replace HX_q:=bmv HX_q hb
 replace HX_x:=bmv HX_x hb
 clear hb
 obtain ⟨c_p0,c_p1,c_p2,c_p3,c_p4,z_p⟩:=cells5 HX_p.out
 obtain ⟨f_p0,f_p1,f_p2,f_p3,f_p4⟩:=frees5 HX_p.out
 obtain ⟨c_x0,c_x1,c_x2,c_x3,z_x⟩:=cells4 HX_x.out
 obtain ⟨f_x0,f_x1,f_x2,f_x3⟩:=frees4 HX_x.out
 obtain ⟨A0,hA0⟩:∃ V,V=v2.setCell ⟨(w.heap.size+1+1+1),0,none⟩ (.string (Lx.bs na)):=⟨_,rfl⟩
 have hsz_A0:=bss hA0
 replace HB:=bsb hA0 HB (by omega)
 replace HX_p:=bst hA0 HX_p (by omega)
 replace HX_a:=bst hA0 HX_a (by omega)
 replace HX_q:=bst hA0 HX_q (by omega)
 replace HX_x:=bsc hA0 HX_x (cs':=#[.string (Lx.bs na),.string ⟨#[]⟩,.int .i64 0,.int .i64 0]) (by simp)
 obtain ⟨A1,hA1⟩:∃ V,V=A0.setCell ⟨(w.heap.size+1+1+1),2,none⟩ (.int .i64 xa):=⟨_,rfl⟩
 have hsz_A1:=bss hA1
 replace HB:=bsb hA1 HB (by omega)
 replace HX_p:=bst hA1 HX_p (by omega)
 replace HX_a:=bst hA1 HX_a (by omega)
 replace HX_q:=bst hA1 HX_q (by omega)
 replace HX_x:=bsc hA1 HX_x (cs':=#[.string (Lx.bs na),.string ⟨#[]⟩,.int .i64 xa,.int .i64 0]) (by simp)
 obtain ⟨Ap,hAp,hxn,hfar,hbn⟩:=pstoreB HX_p.out (.slice A n c) (.int .i64 k2) (.int .i64 last) (.int .i64 x2) (.int .i64 p2)
 replace HB:=Lh (hbn w.heap.size w HB.out (by omega))
 replace HX_a:=bfr hfar.1 HX_a (by omega)
 replace HX_q:=bfr hfar.1 HX_q (by omega)
 replace HX_x:=bfr hfar.1 HX_x (by omega)
 replace HX_p:=Lh hxn
 have hsz_Ap:=hfar.2
 clear hxn hfar hbn
 rw[hA0] at hA1
 rw[hA1] at hAp
 go_upto_region 3 with fail
 rw[←hAp]
 clear hA0 hA1 hAp
 clear c_p0 c_p1 c_p2 c_p3 c_p4 z_p f_p0 f_p1 f_p2 f_p3 f_p4 c_x0 c_x1 c_x2 c_x3 z_x f_x0 f_x1 f_x2 f_x3
 obtain ⟨c_p0,c_p1,c_p2,c_p3,c_p4,z_p⟩:=cells5 HX_p.out
 have HW:=Lh (fun w' h=>pSg T A c last 61 s2 (k2) (x2) (p2) w' h HP2.out)
 unfold PPost pv at HW
 rw[←Hn.out] at HW
 obtain ⟨s3,hs⟩:∃ s',s'=Sx.go s2 (Sx.sign last 61):=⟨_,rfl⟩
 rw[←hs] at HW
 have HR3:=Lh (HR2.out.trans ((Sx.go_unit _ _ _).trans (by rw [←hs])))
 clear hs HR2
 go_wp2_with fail
 refine (HW.out _ (HC.out.next HB.out)).mono ?_
 rintro e' v3 ⟨k3,x3,p3,rfl,ha,hb⟩
 have HP3:=Lh ha
 clear ha HW
 clear c_p0 c_p1 c_p2 c_p3 c_p4 z_p
 have hgz:=hb.size
 replace HB:=bmb HB hb
 replace HX_p:=bmv HX_p hb
 replace HX_a:=bmv HX_a hb
 replace HX_q:=bmv HX_q hb
 replace HX_x:=bmv HX_x hb
 clear hb
 have HW:=Lh (fun w' h=>pRef T A c last s3 (k3) (x3) (p3) w' h HP3.out)
 unfold PRead pv at HW
 rw[←Hn.out] at HW
 obtain ⟨s4,hs⟩:∃ s',s'=(Sx.go s3 (Sx.ref last)).void:=⟨_,rfl⟩
 go_wp2_with fail
 refine (HW.out _ (HC.out.next HB.out)).mono ?_
 rintro e' v4 ⟨⟨nb,xb⟩,vs,k4,x4,p4,rfl,hv,hvs,ha,hb⟩
 rw[←hs] at ha
 have HP4:=Lh ha
 have HR4:=Lh (HR3.out.trans ((Sx.R.Val.step hv _).trans (by rw [←hs])))
 obtain ⟨hvs,hl⟩:=hvs
 unfold strV intV at hvs
 dsimp only at hvs hl
 subst hvs
 have HL2:=Lh hl
 clear hl
 simp only[List.cons_append,List.nil_append]
 clear hs ha hv HW HR3
 have hgz:=hb.size
 replace HB:=bmb HB hb
 replace HX_p:=bmv HX_p hb
 replace HX_a:=bmv HX_a hb
 replace HX_q:=bmv HX_q hb
 replace HX_x:=bmv HX_x hb
 clear hb
 obtain ⟨c_p0,c_p1,c_p2,c_p3,c_p4,z_p⟩:=cells5 HX_p.out
 obtain ⟨f_p0,f_p1,f_p2,f_p3,f_p4⟩:=frees5 HX_p.out
 obtain ⟨c_x0,c_x1,c_x2,c_x3,z_x⟩:=cells4 HX_x.out
 obtain ⟨f_x0,f_x1,f_x2,f_x3⟩:=frees4 HX_x.out
 obtain ⟨B0,hB0⟩:∃ V,V=v4.setCell ⟨(w.heap.size+1+1+1),1,none⟩ (.string (Lx.bs nb)):=⟨_,rfl⟩
 have hsz_B0:=bss hB0
 replace HB:=bsb hB0 HB (by omega)
 replace HX_p:=bst hB0 HX_p (by omega)
 replace HX_a:=bst hB0 HX_a (by omega)
 replace HX_q:=bst hB0 HX_q (by omega)
 replace HX_x:=bsc hB0 HX_x (cs':=#[.string (Lx.bs na),.string (Lx.bs nb),.int .i64 xa,.int .i64 0]) (by simp)
 obtain ⟨B1,hB1⟩:∃ V,V=B0.setCell ⟨(w.heap.size+1+1+1),3,none⟩ (.int .i64 xb):=⟨_,rfl⟩
 have hsz_B1:=bss hB1
 replace HB:=bsb hB1 HB (by omega)
 replace HX_p:=bst hB1 HX_p (by omega)
 replace HX_a:=bst hB1 HX_a (by omega)
 replace HX_q:=bst hB1 HX_q (by omega)
 replace HX_x:=bsc hB1 HX_x (cs':=#[.string (Lx.bs na),.string (Lx.bs nb),.int .i64 xa,.int .i64 xb]) (by simp)
 obtain ⟨Bp,hBp,hxn,hfar,hbn⟩:=pstoreB HX_p.out (.slice A n c) (.int .i64 k4) (.int .i64 last) (.int .i64 x4) (.int .i64 p4)
 replace HB:=Lh (hbn w.heap.size w HB.out (by omega))
 replace HX_a:=bfr hfar.1 HX_a (by omega)
 replace HX_q:=bfr hfar.1 HX_q (by omega)
 replace HX_x:=bfr hfar.1 HX_x (by omega)
 replace HX_p:=Lh hxn
 have hsz_Bp:=hfar.2
 clear hxn hfar hbn
 rw[hB0] at hB1
 rw[hB1] at hBp
 go_upto_region 4 with fail
 rw[←hBp]
 clear hB0 hB1 hBp
 clear c_p0 c_p1 c_p2 c_p3 c_p4 z_p f_p0 f_p1 f_p2 f_p3 f_p4 c_x0 c_x1 c_x2 c_x3 z_x f_x0 f_x1 f_x2 f_x3
 have HSg:=Lh (pSg T A c last 59 s4 (k4) (x4) (p4) Bp.drew ((HC.out.next HB.out).next (Below.refl _ _).drew) HP4.out)
 unfold PPost pv at HSg
 rw[←Hn.out] at HSg
 have HE:Hid (R=Sx.go (Sx.go s4 (Sx.sign last 59)) fun l=>.ok ⟨na,nb,xa,xb⟩ l):=Lh (HR4.out.trans (Sx.go_unit _ _ _))
 have HV:Hid (R.Val ⟨na,nb,xa,xb⟩):=Lh (by rw [HE.out];exact .done _ _)
 have HVd:Hid (R.void=Sx.go s4 (Sx.sign last 59)):=Lh (by rw [HE.out,Sx.void_done])
 rw[←HVd.out] at HSg
 clear HE HVd HR4
 obtain ⟨c_p0,c_p1,c_p2,c_p3,c_p4,z_p⟩:=cells5 HX_p.out
 obtain ⟨c_x0,c_x1,c_x2,c_x3,z_x⟩:=cells4 HX_x.out
 go_region_law (go_simp;go_at_call 96;refine HSg.out.mono ?_;rintro e w6 ⟨k6,x6,p6,rfl,ha,hb6⟩;have hb:Below Bp.heap.size Bp w6:=Below.trans (Below.refl _ _).drew hb6;have HA:=Lh ha;have HB6:=Lh hb;have HY_a:=bmv HX_a hb;have HY_q:=bmv HX_q hb;have HY_x:=bmv HX_x hb;obtain ⟨d_x0,d_x1,d_x2,d_x3,d_z⟩:=cells4 HY_x.out;obtain ⟨y_a0,y_a1,y_a2,y_a3,y_z⟩:=cells4 HY_a.out;obtain ⟨g_a0,g_a1,g_a2,g_a3⟩:=frees4 HY_a.out;obtain ⟨y_q0,y_q1,y_q2,y_q3,y_q4,y_q⟩:=cells5 HY_q.out;obtain ⟨g_q0,g_q1,g_q2,g_q3,g_q4⟩:=frees5 HY_q.out;clear ha hb6 hb)
 all_goals (try go_wp2_with fail)
 all_goals (
  have hgz:=HB6.out.size
  obtain ⟨W8,hW8,hxn,hfar,hbn⟩:=pst4 HY_a.out (.string (Lx.bs na)) (.string (Lx.bs nb)) (.int .i64 xa) (.int .i64 xb)
  have HX8:=bfr hfar.1 HY_q (by omega)
  obtain ⟨W9,hW9,hxn9,hfar9,hbn9⟩:=pstoreB HX8.out (.slice A n c) (.int .i64 k6) (.int .i64 last) (.int .i64 x6) (.int .i64 p6)
  have hxa9:=bfr hfar9.1 (Lh hxn) (by omega)
  have hbel:=hbn9 w.heap.size w (hbn w.heap.size w (HB.out.trans (HB6.out.mono HB.out.size)) (by omega)) (by omega)
  have HFar:Hid (∀ b,w.heap.size+1+1 < b→W9.heap[b]?=w6.heap[b]?):=Lh fun b hb=>(hfar9.1 b (by omega)).trans (hfar.1 b (by omega))
  have HSz:Hid (W9.heap.size=w6.heap.size):=Lh (hfar9.2.trans hfar.2)
  rw[hW8] at hW9
  rw[←hW9]
  clear hW9 hW8
  obtain ⟨t0,t1,t2,t3,t4,tz⟩:=cells5 hxn9
  obtain ⟨r0,r1,r2,r3,rz⟩:=cells4 hxa9.out
  exact bodyPost_ret (v:=.tuple #[.agg #[.string (Lx.bs na),.string (Lx.bs nb),.int .i64 xa,.int .i64 xb],pv A n c k6 last x6 p6]) (by simp [results,Tryz.results33,go_sem,pv,t0,t1,t2,t3,t4,r0,r1,r2,r3]) rfl ⟨_,[.agg #[.string (Lx.bs na),.string (Lx.bs nb),.int .i64 xa,.int .i64 xb]],_,_,_,rfl,HV.out,⟨_,rfl,rfl,HL1.out,HL2.out⟩,HA.out,hbel⟩)
set_option maxRecDepth 20000 in
set_option maxHeartbeats 2000000 in
theorem pClass (T:List Lx.Tok) (A:Option Addr) (c:Nat) (last:Int) (kd:List UInt8) (s:Sx.R Unit) (k e p:Int) (w:World) (hc:PCtx T A w) (hp:PAt T s k e p) :
  Calls Tryz.prog 35 #[pv A T.length c k last e p,.string (Lx.bs kd)] w (PRead T A c last (vClsB) (Sx.go s (fun l=>(Sx.word last kd l).bind fun _ l=>Sx.standing last l)) w):=by
 have HC:=Lh hc;have HP0:=Lh hp
 have hlen:=hc.toks.len
 obtain ⟨R,hR⟩:∃ R,R=Sx.go s (fun l=>(Sx.word last kd l).bind fun _ l=>Sx.standing last l):=⟨_,rfl⟩
 obtain ⟨n,hn⟩:∃ n,n=T.length:=⟨_,rfl⟩
 rw[←hR]
 unfold PRead
 have Hn:=Lh hn;have HR0:=Lh hR
 unfold pv
 rw[←hn] at hlen ⊢
 obtain ⟨W1,W2,W3,hW1,hW2,hW3,p1,p2,p3,hb,hsz⟩:=pbox6 w 82 #[.string ⟨#[]⟩,.int .i64 0,.int .i64 0,.int .i64 0] (.slice A n c) (.int .i64 k) (.int .i64 last) (.int .i64 e) (.int .i64 p)
 have HB:=Lh hb;have HX_p:=Lh p1;have HX_a:=Lh p2;have HX_q:=Lh p3
 clear hc hp hn hb p1 p2 p3 hR
 go_enter Tryz.func35,Tryz.ntmps35
 go_upto_region 1 with fail
 rw[←hW1,←hW2,←hW3]
 clear hW1 hW2 hW3
 obtain ⟨X1,hX1⟩:∃ V,V=W3.alloc (.cells #[.string ⟨#[]⟩,.int .i64 0,.int .i64 0,.int .i64 0] 82):=⟨_,rfl⟩
 obtain ⟨HX_x,hb⟩:=bnw hX1
 have hgz:=hb.size
 replace HB:=bmb HB hb
 replace HX_p:=bmv HX_p hb
 replace HX_a:=bmv HX_a hb
 replace HX_q:=bmv HX_q hb
 clear hb
 replace HX_x:=bat (b:=w.heap.size+1+1+1) HX_x (by omega)
 go_upto_region 2 with fail
 rw[←hX1]
 clear hX1
 obtain ⟨c_p0,c_p1,c_p2,c_p3,c_p4,z_p⟩:=cells5 HX_p.out
 have HW:=Lh (fun w' h=>pWord T A c last (Lx.bs kd) s (k) (e) (p) w' h HP0.out)
 rw[show Sx.need last 1 ((Lx.bs kd):ByteArray).data.toList=Sx.word last kd from by rw [Lx.bs_list];rfl] at HW
 unfold PPost pv at HW
 rw[←Hn.out] at HW
 obtain ⟨s1,hs⟩:∃ s',s'=Sx.go s (Sx.word last kd):=⟨_,rfl⟩
 rw[←hs] at HW
 have HR1:=Lh (HR0.out.trans ((Sx.go_unit _ _ _).trans (by rw [←hs])))
 clear hs HR0
 go_wp2_with fail
 refine (HW.out _ (HC.out.next HB.out)).mono ?_
 rintro e' v1 ⟨k1,x1,p1,rfl,ha,hb⟩
 have HP1:=Lh ha
 clear ha HW
 clear c_p0 c_p1 c_p2 c_p3 c_p4 z_p
 have hgz:=hb.size
 replace HB:=bmb HB hb
 replace HX_p:=bmv HX_p hb
 replace HX_a:=bmv HX_a hb
 replace HX_q:=bmv HX_q hb
 replace HX_x:=bmv HX_x hb
 clear hb
 have HW:=Lh (fun w' h=>pName T A c last s1 (k1) (x1) (p1) w' h HP1.out)
 unfold PRead pv at HW
 rw[←Hn.out] at HW
 obtain ⟨s2,hs⟩:∃ s',s'=(Sx.go s1 (Sx.name last)).void:=⟨_,rfl⟩
 go_wp2_with fail
 refine (HW.out _ (HC.out.next HB.out)).mono ?_
 rintro e' v2 ⟨nm,vs,k2,x2,p2,rfl,hv,hvs,ha,hb⟩
 rw[←hs] at ha
 have HP2:=Lh ha
 have HR2:=Lh (HR1.out.trans ((Sx.R.Val.step hv _).trans (by rw [←hs])))
 obtain ⟨hvs,hl⟩:=hvs
 unfold strV at hvs
 subst hvs
 have HL:=Lh hl
 clear hl
 simp only[List.cons_append,List.nil_append]
 clear hs ha hv HW HR1
 have hgz:=hb.size
 replace HB:=bmb HB hb
 replace HX_p:=bmv HX_p hb
 replace HX_a:=bmv HX_a hb
 replace HX_q:=bmv HX_q hb
 replace HX_x:=bmv HX_x hb
 clear hb
 obtain ⟨c_p0,c_p1,c_p2,c_p3,c_p4,z_p⟩:=cells5 HX_p.out
 obtain ⟨f_p0,f_p1,f_p2,f_p3,f_p4⟩:=frees5 HX_p.out
 obtain ⟨c_x0,c_x1,c_x2,c_x3,z_x⟩:=cells4 HX_x.out
 obtain ⟨f_x0,f_x1,f_x2,f_x3⟩:=frees4 HX_x.out
 obtain ⟨A0,hA0⟩:∃ V,V=v2.setCell ⟨(w.heap.size+1+1+1),0,none⟩ (.string (Lx.bs nm)):=⟨_,rfl⟩
 have hsz_A0:=bss hA0
 replace HB:=bsb hA0 HB (by omega)
 replace HX_p:=bst hA0 HX_p (by omega)
 replace HX_a:=bst hA0 HX_a (by omega)
 replace HX_q:=bst hA0 HX_q (by omega)
 replace HX_x:=bsc hA0 HX_x (cs':=#[.string (Lx.bs nm),.int .i64 0,.int .i64 0,.int .i64 0]) (by simp)
 obtain ⟨Ap,hAp,hxn,hfar,hbn⟩:=pstoreB HX_p.out (.slice A n c) (.int .i64 k2) (.int .i64 last) (.int .i64 x2) (.int .i64 p2)
 replace HB:=Lh (hbn w.heap.size w HB.out (by omega))
 replace HX_a:=bfr hfar.1 HX_a (by omega)
 replace HX_q:=bfr hfar.1 HX_q (by omega)
 replace HX_x:=bfr hfar.1 HX_x (by omega)
 replace HX_p:=Lh hxn
 have hsz_Ap:=hfar.2
 clear hxn hfar hbn
 rw[hA0] at hAp
 go_upto_region 3 with fail
 rw[←hAp]
 clear hA0 hAp
 clear c_p0 c_p1 c_p2 c_p3 c_p4 z_p f_p0 f_p1 f_p2 f_p3 f_p4 c_x0 c_x1 c_x2 c_x3 z_x f_x0 f_x1 f_x2 f_x3
 obtain ⟨c_p0,c_p1,c_p2,c_p3,c_p4,z_p⟩:=cells5 HX_p.out
 have HW:=Lh (fun w' h=>pNumber T A c last 0 10000 s2 (k2) (x2) (p2) w' h HP2.out)
 unfold PRead pv at HW
 rw[←Hn.out] at HW
 obtain ⟨s3,hs⟩:∃ s',s'=(Sx.go s2 (Sx.number last 0 10000)).void:=⟨_,rfl⟩
 go_wp2_with fail
 refine (HW.out _ (HC.out.next HB.out)).mono ?_
 rintro e' v3 ⟨ea,vs,k3,x3,p3,rfl,hv,hvs,ha,hb⟩
 rw[←hs] at ha
 have HP3:=Lh ha
 have HR3:=Lh (HR2.out.trans ((Sx.R.Val.step hv _).trans (by rw [←hs])))
 unfold vInts intV at hvs
 subst hvs
 simp only[List.cons_append,List.nil_append]
 clear hs ha hv HW HR2
 clear c_p0 c_p1 c_p2 c_p3 c_p4 z_p
 have hgz:=hb.size
 replace HB:=bmb HB hb
 replace HX_p:=bmv HX_p hb
 replace HX_a:=bmv HX_a hb
 replace HX_q:=bmv HX_q hb
 replace HX_x:=bmv HX_x hb
 clear hb
 obtain ⟨c_p0,c_p1,c_p2,c_p3,c_p4,z_p⟩:=cells5 HX_p.out
 obtain ⟨f_p0,f_p1,f_p2,f_p3,f_p4⟩:=frees5 HX_p.out
 obtain ⟨c_x0,c_x1,c_x2,c_x3,z_x⟩:=cells4 HX_x.out
 obtain ⟨f_x0,f_x1,f_x2,f_x3⟩:=frees4 HX_x.out
 obtain ⟨B0,hB0⟩:∃ V,V=v3.setCell ⟨(w.heap.size+1+1+1),1,none⟩ (.int .i64 ea):=⟨_,rfl⟩
 have hsz_B0:=bss hB0
 replace HB:=bsb hB0 HB (by omega)
 replace HX_p:=bst hB0 HX_p (by omega)
 replace HX_a:=bst hB0 HX_a (by omega)
 replace HX_q:=bst hB0 HX_q (by omega)
 replace HX_x:=bsc hB0 HX_x (cs':=#[.string (Lx.bs nm),.int .i64 ea,.int .i64 0,.int .i64 0]) (by simp)
 obtain ⟨Bp,hBp,hxn,hfar,hbn⟩:=pstoreB HX_p.out (.slice A n c) (.int .i64 k3) (.int .i64 last) (.int .i64 x3) (.int .i64 p3)
 replace HB:=Lh (hbn w.heap.size w HB.out (by omega))
 replace HX_a:=bfr hfar.1 HX_a (by omega)
 replace HX_q:=bfr hfar.1 HX_q (by omega)
 replace HX_x:=bfr hfar.1 HX_x (by omega)
 replace HX_p:=Lh hxn
 have hsz_Bp:=hfar.2
 clear hxn hfar hbn
 rw[hB0] at hBp
 go_upto_region 4 with fail
 rw[←hBp]
 clear hB0 hBp
 clear c_p0 c_p1 c_p2 c_p3 c_p4 z_p f_p0 f_p1 f_p2 f_p3 f_p4 c_x0 c_x1 c_x2 c_x3 z_x f_x0 f_x1 f_x2 f_x3
 obtain ⟨c_p0,c_p1,c_p2,c_p3,c_p4,z_p⟩:=cells5 HX_p.out
 have HW:=Lh (fun w' h=>pWord T A c last ⟨#[109,101,97,110]⟩ s3 (k3) (x3) (p3) w' h HP3.out)
 rw[show Sx.need last 1 (⟨#[109,101,97,110]⟩:ByteArray).data.toList=Sx.word last Sx.wMean from rfl] at HW
 unfold PPost pv at HW
 rw[←Hn.out] at HW
 obtain ⟨s4,hs⟩:∃ s',s'=Sx.go s3 (Sx.word last Sx.wMean):=⟨_,rfl⟩
 rw[←hs] at HW
 have HR4:=Lh (HR3.out.trans ((Sx.go_unit _ _ _).trans (by rw [←hs])))
 clear hs HR3
 go_wp2_with fail
 refine (HW.out _ (HC.out.next HB.out)).mono ?_
 rintro e' v4 ⟨k4,x4,p4,rfl,ha,hb⟩
 have HP4:=Lh ha
 clear ha HW
 clear c_p0 c_p1 c_p2 c_p3 c_p4 z_p
 have hgz:=hb.size
 replace HB:=bmb HB hb
 replace HX_p:=bmv HX_p hb
 replace HX_a:=bmv HX_a hb
 replace HX_q:=bmv HX_q hb
 replace HX_x:=bmv HX_x hb
 clear hb
 have HW:=Lh (fun w' h=>pRatio T A c last s4 (k4) (x4) (p4) w' h HP4.out)
 unfold PRead pv at HW
 rw[←Hn.out] at HW
 obtain ⟨s5,hs⟩:∃ s',s'=(Sx.go s4 (Sx.ratio last)).void:=⟨_,rfl⟩
 go_wp2_with fail
 refine (HW.out _ (HC.out.next HB.out)).mono ?_
 rintro e' v5 ⟨me,vs,k5,x5,p5,rfl,hv,hvs,ha,hb⟩
 rw[←hs] at ha
 have HP5:=Lh ha
 have HR5:=Lh (HR4.out.trans ((Sx.R.Val.step hv _).trans (by rw [←hs])))
 unfold vRatB intV at hvs
 subst hvs
 simp only[List.cons_append,List.nil_append]
 clear hs ha hv HW HR4
 have hgz:=hb.size
 replace HB:=bmb HB hb
 replace HX_p:=bmv HX_p hb
 replace HX_a:=bmv HX_a hb
 replace HX_q:=bmv HX_q hb
 replace HX_x:=bmv HX_x hb
 clear hb
 obtain ⟨c_p0,c_p1,c_p2,c_p3,c_p4,z_p⟩:=cells5 HX_p.out
 obtain ⟨f_p0,f_p1,f_p2,f_p3,f_p4⟩:=frees5 HX_p.out
 obtain ⟨c_x0,c_x1,c_x2,c_x3,z_x⟩:=cells4 HX_x.out
 obtain ⟨f_x0,f_x1,f_x2,f_x3⟩:=frees4 HX_x.out
 obtain ⟨C0,hC0⟩:∃ V,V=v5.setCell ⟨(w.heap.size+1+1+1),2,none⟩ (.int .i64 me.num):=⟨_,rfl⟩
 have hsz_C0:=bss hC0
 replace HB:=bsb hC0 HB (by omega)
 replace HX_p:=bst hC0 HX_p (by omega)
 replace HX_a:=bst hC0 HX_a (by omega)
 replace HX_q:=bst hC0 HX_q (by omega)
 replace HX_x:=bsc hC0 HX_x (cs':=#[.string (Lx.bs nm),.int .i64 ea,.int .i64 me.num,.int .i64 0]) (by simp)
 obtain ⟨C1,hC1⟩:∃ V,V=C0.setCell ⟨(w.heap.size+1+1+1),3,none⟩ (.int .i64 me.den):=⟨_,rfl⟩
 have hsz_C1:=bss hC1
 replace HB:=bsb hC1 HB (by omega)
 replace HX_p:=bst hC1 HX_p (by omega)
 replace HX_a:=bst hC1 HX_a (by omega)
 replace HX_q:=bst hC1 HX_q (by omega)
 replace HX_x:=bsc hC1 HX_x (cs':=#[.string (Lx.bs nm),.int .i64 ea,.int .i64 me.num,.int .i64 me.den]) (by simp)
 obtain ⟨Cp,hCp,hxn,hfar,hbn⟩:=pstoreB HX_p.out (.slice A n c) (.int .i64 k5) (.int .i64 last) (.int .i64 x5) (.int .i64 p5)
 replace HB:=Lh (hbn w.heap.size w HB.out (by omega))
 replace HX_a:=bfr hfar.1 HX_a (by omega)
 replace HX_q:=bfr hfar.1 HX_q (by omega)
 replace HX_x:=bfr hfar.1 HX_x (by omega)
 replace HX_p:=Lh hxn
 have hsz_Cp:=hfar.2
 clear hxn hfar hbn
 rw[hC0] at hC1
 rw[hC1] at hCp
 go_upto_region 5 with fail
 rw[←hCp]
 clear hC0 hC1 hCp
 clear c_p0 c_p1 c_p2 c_p3 c_p4 z_p f_p0 f_p1 f_p2 f_p3 f_p4 c_x0 c_x1 c_x2 c_x3 z_x f_x0 f_x1 f_x2 f_x3
 have HSg:=Lh (pSg T A c last 59 s5 (k5) (x5) (p5) Cp.drew ((HC.out.next HB.out).next (Below.refl _ _).drew) HP5.out)
 unfold PPost pv at HSg
 rw[←Hn.out] at HSg
 have HE:Hid (R=Sx.go (Sx.go s5 (Sx.sign last 59)) fun l=>.ok ⟨nm,ea,me⟩ l):=Lh (HR5.out.trans (Sx.go_unit _ _ _))
 have HV:Hid (R.Val ⟨nm,ea,me⟩):=Lh (by rw [HE.out];exact .done _ _)
 have HVd:Hid (R.void=Sx.go s5 (Sx.sign last 59)):=Lh (by rw [HE.out,Sx.void_done])
 rw[←HVd.out] at HSg
 clear HE HVd HR5
 obtain ⟨c_p0,c_p1,c_p2,c_p3,c_p4,z_p⟩:=cells5 HX_p.out
 obtain ⟨c_x0,c_x1,c_x2,c_x3,z_x⟩:=cells4 HX_x.out
 go_region_law (go_simp;go_at_call 96;refine HSg.out.mono ?_;rintro e w6 ⟨k6,x6,p6,rfl,ha,hb6⟩;have hb:Below Cp.heap.size Cp w6:=Below.trans (Below.refl _ _).drew hb6;have HA:=Lh ha;have HB6:=Lh hb;have HY_a:=bmv HX_a hb;have HY_q:=bmv HX_q hb;have HY_x:=bmv HX_x hb;obtain ⟨d_x0,d_x1,d_x2,d_x3,d_z⟩:=cells4 HY_x.out;obtain ⟨y_a0,y_a1,y_a2,y_a3,y_z⟩:=cells4 HY_a.out;obtain ⟨g_a0,g_a1,g_a2,g_a3⟩:=frees4 HY_a.out;obtain ⟨y_q0,y_q1,y_q2,y_q3,y_q4,y_q⟩:=cells5 HY_q.out;obtain ⟨g_q0,g_q1,g_q2,g_q3,g_q4⟩:=frees5 HY_q.out;clear ha hb6 hb)
 all_goals (try go_wp2_with fail)
 all_goals (
  have hgz:=HB6.out.size
  obtain ⟨W8,hW8,hxn,hfar,hbn⟩:=pst4 HY_a.out (.string (Lx.bs nm)) (.int .i64 ea) (.int .i64 me.num) (.int .i64 me.den)
  have HX8:=bfr hfar.1 HY_q (by omega)
  obtain ⟨W9,hW9,hxn9,hfar9,hbn9⟩:=pstoreB HX8.out (.slice A n c) (.int .i64 k6) (.int .i64 last) (.int .i64 x6) (.int .i64 p6)
  have hxa9:=bfr hfar9.1 (Lh hxn) (by omega)
  have hbel:=hbn9 w.heap.size w (hbn w.heap.size w (HB.out.trans (HB6.out.mono HB.out.size)) (by omega)) (by omega)
  have HFar:Hid (∀ b,w.heap.size+1+1 < b→W9.heap[b]?=w6.heap[b]?):=Lh fun b hb=>(hfar9.1 b (by omega)).trans (hfar.1 b (by omega))
  have HSz:Hid (W9.heap.size=w6.heap.size):=Lh (hfar9.2.trans hfar.2)
  rw[hW8] at hW9
  rw[←hW9]
  clear hW9 hW8
  obtain ⟨t0,t1,t2,t3,t4,tz⟩:=cells5 hxn9
  obtain ⟨r0,r1,r2,r3,rz⟩:=cells4 hxa9.out
  exact bodyPost_ret (v:=.tuple #[.agg #[.string (Lx.bs nm),.int .i64 ea,.int .i64 me.num,.int .i64 me.den],pv A n c k6 last x6 p6]) (by simp [results,Tryz.results35,go_sem,pv,t0,t1,t2,t3,t4,r0,r1,r2,r3]) rfl ⟨_,[.agg #[.string (Lx.bs nm),.int .i64 ea,.int .i64 me.num,.int .i64 me.den]],_,_,_,rfl,HV.out,⟨_,rfl,rfl,HL.out⟩,HA.out,hbel⟩)
end Go.Proofs.YtjonaidancomgaaGreatDoor

namespace Go.Proofs.YtjonaidancomgaaGreatDoor
open Go.RowKit

section
variable {W V : World} {b i lo : Nat} {u : Value} {r : Sx.Rule} {cs : List Value}
theorem rkm (h:Hid (RuleAt W (fun b=>lo≤b∧b < W.heap.size) r cs)) (hb:Below W.heap.size W V):Hid (RuleAt V (fun b=>lo≤b∧b < V.heap.size) r cs):=Lh (RuleAt.keep (fun b h=>⟨⟨h.1,Nat.lt_of_lt_of_le h.2 hb.size⟩,fun j=>hb.cell (p:=⟨b,j,none⟩) h.2⟩) _ _ h.out)
theorem rkf (hf:∀ k,k≠b→V.heap[k]?=W.heap[k]?) (hs:V.heap.size=W.heap.size) (h:Hid (RuleAt W (fun b=>lo≤b∧b < W.heap.size) r cs)) (hn:b < lo):Hid (RuleAt V (fun b=>lo≤b∧b < V.heap.size) r cs):=Lh (RuleAt.keep (fun k h=>⟨⟨h.1,by rw [hs];exact h.2⟩,fun j=>World.cell?_of_block (a:=⟨k,j,none⟩) (hf k (by have:=h.1;omega))⟩) _ _ h.out)
theorem rks (e:V=W.setCell ⟨b,i,none⟩ u) (h:Hid (RuleAt W (fun b=>lo≤b∧b < W.heap.size) r cs)) (hn:b < lo):Hid (RuleAt V (fun b=>lo≤b∧b < V.heap.size) r cs):=rkf (fun k hk=>by rw [e];exact Below.heap_setCell _ ⟨b,i,none⟩ _ k hk) (bss e) h hn
theorem rke (h:RuleAt W (fun b=>lo≤b∧b < W.heap.size) r cs) {lo':Nat} (hl:lo'≤lo):Hid (RuleAt W (fun b=>lo'≤b∧b < W.heap.size) r cs):=Lh (RuleAt.keep (fun k h=>⟨⟨by have:=h.1;omega,h.2⟩,fun _=>rfl⟩) _ _ h)
end
namespace Sx
open Lx (Tok)
theorem go_opt_bind_yes {α β:Type} {s:R Unit} {last:Int} {w:List UInt8} {f:List Tok→R α} {d:α} (g:α→List Tok→R β) (h:s.hits 1 w=true):go s (fun l=>(opt last w f d l).bind g)=go s fun l=>(word last w l).bind fun _ l=>(f l).bind fun a l=>(sign last 59 l).bind fun _ l=>g a l:=by
 obtain ⟨l,rfl,h1,h2⟩:=hits_need (last:=last) _ h
 have h3:word last w l = .ok () l.tail:=by unfold word need;rw[if_pos h1]
 rw[goOk,goOk,h3]
 unfold opt
 rw[if_pos h1]
 show ((f l.tail).bind _).bind g=(f l.tail).bind _
 cases f l.tail with
 | bad p e=>rfl
 | ok a l=>
  show ((sign last 59 l).bind _).bind g=(sign last 59 l).bind _
  cases sign last 59 l <;> rfl
theorem go_opt_bind_no {α β:Type} {s:R Unit} {last:Int} {w:List UInt8} {f:List Tok→R α} {d:α} (g:α→List Tok→R β) (h:s.hits 1 w=false):go s (fun l=>(opt last w f d l).bind g)=go s fun l=>g d l:=by
 rcases hits_not h with ⟨p,e,rfl⟩ | ⟨l,rfl,h1⟩
 ·rfl
 ·rw[goOk,goOk];unfold opt;rw[h1];rfl
end Sx
theorem frees7 {w:World} {b:Nat} {t:TypeId} {cs:Array Value} (h:Blk w b t cs):w.frozen? ⟨b,0,none⟩=false∧w.frozen? ⟨b,1,none⟩=false∧w.frozen? ⟨b,2,none⟩=false∧w.frozen? ⟨b,3,none⟩=false∧w.frozen? ⟨b,4,none⟩=false∧w.frozen? ⟨b,5,none⟩=false∧w.frozen? ⟨b,6,none⟩=false:=⟨h.free 0,h.free 1,h.free 2,h.free 3,h.free 4,h.free 5,h.free 6⟩
end Go.Proofs.YtjonaidancomgaaGreatDoor

namespace Go.Proofs.YtjonaidancomgaaGreatDoor
namespace Sx
open Lx (Tok)
variable {β : Type} {last : Int} {s : R Unit} {g : Nat}
def refsB (last:Int) (f:Nat) (rs:List (List UInt8 × Int)) (l:List Tok):R (List (List UInt8 × Int)):=if hit 3 [44] l then refs last f rs l.tail else .ok rs l
theorem refs_succ (f:Nat) (rs:List (List UInt8 × Int)) (l:List Tok):refs last (f+1) rs l=(ref last l).bind fun r l=>refsB last f (rs++[r]) l:=rfl
theorem refs_go {rs:List (List UInt8 × Int)} (G:List (List UInt8 × Int)→List Tok→R β) (h:s.hits 3 [44]=true):go s (fun l=>(refsB last (g+1) rs l).bind G)=go s fun l=>(sign last 44 l).bind fun _ l=>(ref last l).bind fun r l=>(refsB last g (rs++[r]) l).bind G:=by
 obtain ⟨l,rfl,h1,h2⟩:=hits_need (last:=last) _ h
 have h3:sign last 44 l = .ok () l.tail:=h2
 rw[goOk,goOk,h3]
 unfold refsB
 rw[if_pos h1,refs_succ]
 show ((ref last l.tail).bind _).bind G=(ref last l.tail).bind _
 cases ref last l.tail <;> rfl
theorem refs_end {rs:List (List UInt8 × Int)} {f:Nat} (G:List (List UInt8 × Int)→List Tok→R β) (h:s.hits 3 [44]=false):go s (fun l=>(refsB last f rs l).bind G)=go s (G rs):=by
 rcases hits_not h with ⟨p,e,rfl⟩ | ⟨l,rfl,h1⟩
 ·rfl
 ·rw[goOk,goOk];unfold refsB;rw[h1];rfl
theorem eats_refs:∀ (f:Nat) (rs:List (List UInt8 × Int)) (l:List Tok),Eats 0 l (refs last f rs l)
 | 0,rs,l=>.ok _ _
 | f+1,rs,l=>((eats_ref last l).bind (j:=0) fun r l=>by
   split
   ·rename_i h
    exact (eats_tail h (eats_refs f _ _)).mono (by omega)
   ·exact .ok _ _).mono (by omega)
theorem eats_take (l:List Tok):Eats 0 l (take last l):=by
 refine ((eats_name last l).bind (j:=0) fun nm l=>?_).mono (by omega)
 refine ((eats_number last _ _ l).bind (j:=0) fun cr l=>?_).mono (by omega)
 refine ((eats_need last _ _ l).bind (j:=0) fun _ l=>?_).mono (by omega)
 refine ((eats_refs _ _ l).bind (j:=0) fun rs l=>?_).mono (by omega)
 refine (Eats.bind (k:=0) (j:=0) ?_ fun g l=>?_).mono (by omega)
 ·split
  ·rename_i h
   exact (eats_tail h (eats_number last _ _ _)).mono (by omega)
  ·exact .ok _ _
 ·intro a r' e
  have h1:=((eats_need last _ _ _).bind (j:=0) fun _ l=>Eats.ok _ l) a r' e
  have h2:(if hit 1 wHome l then l.tail else l).length≤l.length:=by split <;> simp
  exact Nat.le_trans (Nat.le_trans (by omega) h1) h2
theorem takes_go {qs:List Req} (G:List Req→List Tok→R β) (h:s.hits 1 wTake=true) (hl:qs.length≠64):go s (fun l=>(takes last (g+1) qs l).bind G)=go s fun l=>((word last wTake l).bind fun _ l=>take last l).bind fun q l=>(takes last g (qs++[q]) l).bind G:=by
 obtain ⟨l,rfl,h1,h2⟩:=hits_need (last:=last) _ h
 have h3:word last wTake l = .ok () l.tail:=h2
 rw[goOk,goOk,h3,takes,if_pos h1,if_neg hl]
 show ((take last l.tail).bind _).bind G=(take last l.tail).bind _
 cases take last l.tail <;> rfl
theorem takes_full {qs:List Req} (G:List Req→List Tok→R β) (h:s.hits 1 wTake=true) (hl:qs.length=64):go s (fun l=>(takes last (g+1) qs l).bind G)=go s fun l=>fail last l 2:=by
 obtain ⟨l,rfl,h1,h2⟩:=hits_need (last:=last) _ h
 rw[goOk,goOk,takes,if_pos h1,if_pos hl]
 rfl
theorem takes_end {gk:Nat} {qs:List Req} (G:List Req→List Tok→R β) (hs:∀ l,s = .ok () l→l.length+1≤gk) (h:s.hits 1 wTake=false):go s (fun l=>(takes last gk qs l).bind G)=go s (G qs):=by
 rcases hits_not h with ⟨p,e,rfl⟩ | ⟨l,rfl,h1⟩
 ·rfl
 ·have:=hs l rfl
  obtain ⟨g',rfl⟩:∃ g',gk=g'+1:=⟨gk - 1,by omega⟩
  rw[goOk,goOk,takes,h1]
  rfl
theorem takes_left (hs:∀ l,s = .ok () l→l.length+1≤g+1) {l:List Tok} (h:(go s fun l=>(word last wTake l).bind fun _ l=>take last l).void = .ok () l):l.length+1≤g:=by
 obtain ⟨q,hq⟩:=void_ok h
 obtain ⟨m,rfl,hm⟩:=go_of_ok hq
 have h1:=hs m rfl
 have h2:=((eats_need last 1 wTake m).bind (j:=0) fun _ l=>eats_take l) q l hm
 omega
def takeH (last:Int) (nm:List UInt8) (cr:Int) (rs:List (List UInt8 × Int)) (g:Int) (hm:Bool) (l:List Tok):R Req:=(sign last 59 l).bind fun _ l=>.ok ⟨nm,cr,g,hm,rs.map (·.1),rs.map (·.2)⟩ l
def takeG (last:Int) (nm:List UInt8) (cr:Int) (rs:List (List UInt8 × Int)) (g:Int) (l:List Tok):R Req:=if hit 1 wHome l then takeH last nm cr rs g true l.tail else takeH last nm cr rs g false l
def takeF (last:Int) (nm:List UInt8) (cr:Int) (rs:List (List UInt8 × Int)) (l:List Tok):R Req:=if hit 1 wAt l then (number last 0 12 l.tail).bind fun g l=>takeG last nm cr rs g l else takeG last nm cr rs 1 l
theorem take_steps (l:List Tok):take last l=(name last l).bind fun nm l=>(number last 1 10000 l).bind fun cr l=>(word last wFrom l).bind fun _ l=>(refs last l.length.succ [] l).bind fun rs l=>takeF last nm cr rs l:=by
 unfold take
 congr 1;funext nm l;congr 1;funext cr l;congr 1;funext _ l;congr 1;funext rs l
 unfold takeF
 have hG:∀ (g:Int) (l:List Tok),((sign last 59 (if hit 1 wHome l then l.tail else l)).bind fun _ l2=>R.ok (⟨nm,cr,g,hit 1 wHome l,rs.map (·.1),rs.map (·.2)⟩:Req) l2)=takeG last nm cr rs g l:=fun g l=>by
  unfold takeG takeH
  cases h:hit 1 wHome l <;> rfl
 cases h:hit 1 wAt l with
 | true=>
  show (number last 0 12 l.tail).bind _=(number last 0 12 l.tail).bind _
  congr 1;funext g l;exact hG g l
 | false=>exact hG 1 l
theorem takeF_yes {nm:List UInt8} {cr:Int} {rs:List (List UInt8 × Int)} (h:s.hits 1 wAt=true):go s (takeF last nm cr rs)=go s fun l=>(word last wAt l).bind fun _ l=>(number last 0 12 l).bind fun g l=>takeG last nm cr rs g l:=by
 obtain ⟨l,rfl,h1,h2⟩:=hits_need (last:=last) _ h
 have h3:word last wAt l = .ok () l.tail:=h2
 rw[goOk,goOk,h3];unfold takeF;rw[if_pos h1];rfl
theorem takeF_no {nm:List UInt8} {cr:Int} {rs:List (List UInt8 × Int)} (h:s.hits 1 wAt=false):go s (takeF last nm cr rs)=go s (takeG last nm cr rs 1):=by
 rcases hits_not h with ⟨p,e,rfl⟩ | ⟨l,rfl,h1⟩
 ·rfl
 ·rw[goOk,goOk];unfold takeF;rw[h1];rfl
theorem takeG_yes {nm:List UInt8} {cr g:Int} {rs:List (List UInt8 × Int)} (h:s.hits 1 wHome=true):go s (takeG last nm cr rs g)=go s fun l=>(word last wHome l).bind fun _ l=>takeH last nm cr rs g true l:=by
 obtain ⟨l,rfl,h1,h2⟩:=hits_need (last:=last) _ h
 have h3:word last wHome l = .ok () l.tail:=h2
 rw[goOk,goOk,h3];unfold takeG;rw[if_pos h1];rfl
theorem takeG_no {nm:List UInt8} {cr g:Int} {rs:List (List UInt8 × Int)} (h:s.hits 1 wHome=false):go s (takeG last nm cr rs g)=go s (takeH last nm cr rs g false):=by
 rcases hits_not h with ⟨p,e,rfl⟩ | ⟨l,rfl,h1⟩
 ·rfl
 ·rw[goOk,goOk];unfold takeG;rw[h1];rfl
end Sx
end Go.Proofs.YtjonaidancomgaaGreatDoor
