/- Parts of the proof, joined into one text: RpRulA. -/
import Derived.Test.YtjonaidancomgaaGreatDoorPRpParE

namespace Go.Proofs.YtjonaidancomgaaGreatDoor
open Go.RowKit

def vRuleB (lo:Nat) (w:World) (a:Sx.Rule) (vs:List Value):Prop:=∃ cs,vs = [.agg cs.toArray]∧RuleAt w (fun b=>lo≤b∧b < w.heap.size) a cs
theorem vRule_leaf (lo:Nat) (w:World) (op co:Int) (nm:List UInt8) (n d:Int) (hn:nm.length≤140737488351232):vRuleB lo w (.mk op co nm n d []) [.agg #[.int .i64 op,.int .i64 co,.string (Lx.bs nm),.int .i64 n,.int .i64 d,.slice none 0 0]]:=by
 refine ⟨[.int .i64 op,.int .i64 co,.string (Lx.bs nm),.int .i64 n,.int .i64 d,.slice none 0 0],rfl,?_⟩
 rw[RuleAt]
 exact ⟨none,0,rfl,hn,by simp,by rw [KidsAt];trivial⟩
theorem pbox6 (w:World) (t:TypeId) (cs:Array Value) (c0 c1 c2 c3 c4:Value):∃ W1 W2 W3:World,W1=w.alloc (.cells #[c0,c1,c2,c3,c4] 64)∧W2=W1.alloc (.cells cs t)∧W3=W2.alloc (.cells #[.slice none 0 0,.int .i64 0,.int .i64 0,.int .i64 0,.int .i64 0] 64)∧
  Blk W3 w.heap.size 64 #[c0,c1,c2,c3,c4]∧Blk W3 (w.heap.size+1) t cs∧Blk W3 (w.heap.size+1+1) 64 #[.slice none 0 0,.int .i64 0,.int .i64 0,.int .i64 0,.int .i64 0]∧Below w.heap.size w W3∧W3.heap.size=w.heap.size+3:=by
 refine ⟨_,_,_,rfl,rfl,rfl,(((Blk.new w _ _).alloc _).alloc _),?_,?_,?_,by simp⟩
 ·have:=(Blk.new (w.alloc (.cells #[c0,c1,c2,c3,c4] 64)) t cs).alloc (.cells #[.slice none 0 0,.int .i64 0,.int .i64 0,.int .i64 0,.int .i64 0] 64)
  simpa using this
 ·have:=Blk.new ((w.alloc (.cells #[c0,c1,c2,c3,c4] 64)).alloc (.cells cs t)) 64 #[.slice none 0 0,.int .i64 0,.int .i64 0,.int .i64 0,.int .i64 0]
  simpa using this
 ·exact (((Below.refl _ _).alloc (Nat.le_refl _) _).alloc (by simp) _).alloc (by simp;omega) _
theorem pstoreR {w:World} {b:Nat} {z0 z1 z2 z3 z4 z5:Value} (h:Blk w b 38 #[z0,z1,z2,z3,z4,z5]) (a0 a1 a2 a3 a4 a5:Value):∃ W:World,W=(((((w.setCell ⟨b,0,none⟩ a0).setCell ⟨b,1,none⟩ a1).setCell ⟨b,2,none⟩ a2).setCell ⟨b,3,none⟩ a3).setCell ⟨b,4,none⟩ a4).setCell ⟨b,5,none⟩ a5∧
  Blk W b 38 #[a0,a1,a2,a3,a4,a5]∧((∀ k,k≠b→W.heap[k]?=w.heap[k]?)∧W.heap.size=w.heap.size)∧∀ (B:Nat) (w0:World),Below B w0 w→B≤b→Below B w0 W:=by
 refine ⟨_,rfl,?_,⟨fun k hk=>?_,by simp [World.setCell]⟩,fun B w0 hb hB=>(((((hb.setCell (p:=⟨b,0,none⟩) hB a0).setCell (p:=⟨b,1,none⟩) hB a1).setCell (p:=⟨b,2,none⟩) hB a2).setCell (p:=⟨b,3,none⟩) hB a3).setCell (p:=⟨b,4,none⟩) hB a4).setCell (p:=⟨b,5,none⟩) hB a5⟩
 ·have:=(((((h.set 0 a0).set 1 a1).set 2 a2).set 3 a3).set 4 a4).set 5 a5
  simpa using this
 ·rw[Below.heap_setCell _ ⟨b,5,none⟩ _ k hk,Below.heap_setCell _ ⟨b,4,none⟩ _ k hk,Below.heap_setCell _ ⟨b,3,none⟩ _ k hk,Below.heap_setCell _ ⟨b,2,none⟩ _ k hk,Below.heap_setCell _ ⟨b,1,none⟩ _ k hk,Below.heap_setCell _ ⟨b,0,none⟩ _ k hk]
set_option maxRecDepth 20000 in
set_option maxHeartbeats 2000000 in
theorem pRule7 (T:List Lx.Tok) (A:Option Addr) (c:Nat) (last:Int) (lv:Int) (hlv:¬ lv > 16)(s s1:Sx.R Unit) (R:Sx.R Sx.Rule) (k:Int) (w:World) (hc:PCtx T A w) (hp:PAt T s k 0 0) (hp1:PAt T s1 (k+1) 0 0) (hk0:0≤k) (hk1:k≤1000000) (hop:Sx.begR s=7) (hR:R=Sx.go s1 (fun l=>(Sx.number last 0 10000 l).bind fun n l=>.ok (.mk 7 0 [] n 0 []) l)) :
  Calls Tryz.prog 46 #[pv A T.length c k last 0 0,.int .i64 lv,.bool false] w (PRead T A c last (vRuleB w.heap.size) R w):=by
 have HC:=Lh hc
 have H1:=Lh (fun w' h=>pBegins T A c last s k 0 0 w' h hp)
 rw[hop] at H1
 have hlen:=hc.toks.len
 have HP1:=Lh hp1
 obtain ⟨n,hn⟩:∃ n,n=T.length:=⟨_,rfl⟩
 unfold PRead
 have Hn:=Lh hn
 unfold pv at H1 ⊢
 rw[←hn] at H1 hlen ⊢
 obtain ⟨W1,W2,W3,hW1,hW2,hW3,p1,p2,p3,hb,hsz⟩:=pbox6 w 38 #[.int .i64 0,.int .i64 0,.string ⟨#[]⟩,.int .i64 0,.int .i64 0,.slice none 0 0] (.slice A n c) (.int .i64 k) (.int .i64 last) (.int .i64 0) (.int .i64 0)
 have HB:=Lh hb;have HX_p:=Lh p1;have HX_a:=Lh p2;have HX_q:=Lh p3
 have HR0:=Lh hR
 clear hc hp hp1 hn hb p1 p2 p3 hR hop
 obtain ⟨c_p0,c_p1,c_p2,c_p3,c_p4,z_p⟩:=cells5 HX_p.out
 go_enter Tryz.func46,Tryz.ntmps46
 go_upto_region 1 with fail
 rw[←hW1,←hW2,←hW3]
 clear hW1 hW2 hW3
 go_wp2_with fail
 refine (H1.out _ (HC.out.next HB.out)).mono ?_
 rintro e' w1 ⟨rfl,hb⟩
 clear c_p0 c_p1 c_p2 c_p3 c_p4 z_p
 have hgz:=hb.size
 replace HB:=bmb HB hb
 replace HX_p:=bmv HX_p hb
 replace HX_a:=bmv HX_a hb
 replace HX_q:=bmv HX_q hb
 clear hb
 obtain ⟨c_p0,c_p1,c_p2,c_p3,c_p4,z_p⟩:=cells5 HX_p.out
 obtain ⟨f_p0,f_p1,f_p2,f_p3,f_p4⟩:=frees5 HX_p.out
 obtain ⟨V1,hV1⟩:∃ V,V=w1.setCell ⟨w.heap.size,1,none⟩ (.int .i64 (k+1)):=⟨_,rfl⟩
 have hsz_V1:=bss hV1
 replace HB:=bsb hV1 HB (by omega)
 replace HX_a:=bst hV1 HX_a (by omega)
 replace HX_q:=bst hV1 HX_q (by omega)
 replace HX_p:=bsc hV1 HX_p (cs':=#[.slice A n c,.int .i64 (k+1),.int .i64 last,.int .i64 0,.int .i64 0]) (by simp)
 obtain ⟨V2,hV2⟩:∃ V,V=V1.alloc (.cells #[.int .i64 7,.int .i64 0,.string ⟨#[]⟩,.int .i64 0,.int .i64 0,.slice none 0 0] 38):=⟨_,rfl⟩
 obtain ⟨HX_r,hb⟩:=bnw hV2
 have hgz:=hb.size
 replace HB:=bmb HB hb
 replace HX_p:=bmv HX_p hb
 replace HX_a:=bmv HX_a hb
 replace HX_q:=bmv HX_q hb
 clear hb
 rw[hV1] at hV2
 clear hV1
 replace HX_r:=bat (b:=w1.heap.size) HX_r hsz_V1
 have hr1:w.heap.size+1+1 < w1.heap.size:=by omega
 have hr2:w1.heap.size < V2.heap.size:=HX_r.out.lt
 go_upto_region 24 with fail
 rw[←hV2]
 clear hV2
 clear c_p0 c_p1 c_p2 c_p3 c_p4 z_p f_p0 f_p1 f_p2 f_p3 f_p4
 have HNum:=Lh (fun w' h=>pNumber T A c last 0 10000 s1 (k+1) 0 0 w' h HP1.out)
 unfold PRead pv at HNum
 rw[←Hn.out] at HNum
 obtain ⟨c_p0,c_p1,c_p2,c_p3,c_p4,z_p⟩:=cells5 HX_p.out
 obtain ⟨c_r0,c_r1,c_r2,c_r3,c_r4,c_r5,z_r⟩:=cells6 HX_r.out
 go_wp2_with fail
 refine (HNum.out _ (HC.out.next HB.out)).mono ?_
 rintro e' w4 ⟨m,vs,k4,x4,p4,rfl,hv,hvs,ha,hb⟩
 unfold vInts intV at hvs
 subst hvs
 simp only[List.cons_append,List.nil_append]
 have HV:Hid (R.Val (.mk 7 0 [] m 0 [])):=Lh (by rw [HR0.out,←Sx.go_bind];exact hv.map _)
 have HA:Hid (PAt T R.void k4 x4 p4):=Lh (by rw [HR0.out,←Sx.go_bind,Sx.void_map];exact ha)
 clear hv ha HNum HR0
 clear c_p0 c_p1 c_p2 c_p3 c_p4 z_p c_r0 c_r1 c_r2 c_r3 c_r4 c_r5 z_r
 have hgz:=hb.size
 replace HB:=bmb HB hb
 replace HX_p:=bmv HX_p hb
 replace HX_a:=bmv HX_a hb
 replace HX_q:=bmv HX_q hb
 replace HX_r:=bmv HX_r hb
 clear hb
 obtain ⟨c_p0,c_p1,c_p2,c_p3,c_p4,z_p⟩:=cells5 HX_p.out
 obtain ⟨f_p0,f_p1,f_p2,f_p3,f_p4⟩:=frees5 HX_p.out
 obtain ⟨c_r0,c_r1,c_r2,c_r3,c_r4,c_r5,z_r⟩:=cells6 HX_r.out
 obtain ⟨f_r0,f_r1,f_r2,f_r3,f_r4,f_r5⟩:=frees6 HX_r.out
 obtain ⟨V3,hV3⟩:∃ V,V=w4.setCell ⟨w1.heap.size,3,none⟩ (.int .i64 m):=⟨_,rfl⟩
 have hsz_V3:=bss hV3
 replace HB:=bsb hV3 HB (by omega)
 replace HX_p:=bst hV3 HX_p (by omega)
 replace HX_a:=bst hV3 HX_a (by omega)
 replace HX_q:=bst hV3 HX_q (by omega)
 replace HX_r:=bsc hV3 HX_r (cs':=#[.int .i64 7,.int .i64 0,.string ⟨#[]⟩,.int .i64 m,.int .i64 0,.slice none 0 0]) (by simp)
 obtain ⟨V4,hV4,hxn,hfar,hbn⟩:=pstoreB HX_p.out (.slice A n c) (.int .i64 k4) (.int .i64 last) (.int .i64 x4) (.int .i64 p4)
 replace HB:=Lh (hbn w.heap.size w HB.out (by omega))
 replace HX_a:=bfr hfar.1 HX_a (by omega)
 replace HX_q:=bfr hfar.1 HX_q (by omega)
 replace HX_r:=bfr hfar.1 HX_r (by omega)
 replace HX_p:=Lh hxn
 have hsz_V4:=hfar.2
 clear hxn hfar hbn
 rw[hV3] at hV4
 go_upto_region 25 with fail
 rw[←hV4]
 clear hV3 hV4
 clear c_p0 c_p1 c_p2 c_p3 c_p4 z_p f_p0 f_p1 f_p2 f_p3 f_p4 c_r0 c_r1 c_r2 c_r3 c_r4 c_r5 z_r f_r0 f_r1 f_r2 f_r3 f_r4 f_r5
 obtain ⟨c_p0,c_p1,c_p2,c_p3,c_p4,z_p⟩:=cells5 HX_p.out
 obtain ⟨c_r0,c_r1,c_r2,c_r3,c_r4,c_r5,z_r⟩:=cells6 HX_r.out
 obtain ⟨c_a0,c_a1,c_a2,c_a3,c_a4,c_a5,z_a⟩:=cells6 HX_a.out
 obtain ⟨f_a0,f_a1,f_a2,f_a3,f_a4,f_a5⟩:=frees6 HX_a.out
 obtain ⟨c_q0,c_q1,c_q2,c_q3,c_q4,z_q⟩:=cells5 HX_q.out
 obtain ⟨f_q0,f_q1,f_q2,f_q3,f_q4⟩:=frees5 HX_q.out
 obtain ⟨W8,hW8,hxn,hfar,hbn⟩:=pstoreR HX_a.out (.int .i64 7) (.int .i64 0) (.string ⟨#[]⟩) (.int .i64 m) (.int .i64 0) (.slice none 0 0)
 replace HB:=Lh (hbn w.heap.size w HB.out (by omega))
 replace HX_p:=bfr hfar.1 HX_p (by omega)
 replace HX_q:=bfr hfar.1 HX_q (by omega)
 replace HX_r:=bfr hfar.1 HX_r (by omega)
 replace HX_a:=Lh hxn
 have hsz_W8:=hfar.2
 clear hxn hfar hbn
 obtain ⟨W9,hW9,hxn,hfar,hbn⟩:=pstoreB HX_q.out (.slice A n c) (.int .i64 k4) (.int .i64 last) (.int .i64 x4) (.int .i64 p4)
 replace HB:=Lh (hbn w.heap.size w HB.out (by omega))
 replace HX_p:=bfr hfar.1 HX_p (by omega)
 replace HX_a:=bfr hfar.1 HX_a (by omega)
 replace HX_r:=bfr hfar.1 HX_r (by omega)
 replace HX_q:=Lh hxn
 have hsz_W9:=hfar.2
 clear hxn hfar hbn
 rw[hW8] at hW9
 go_region
 rw[←hW9]
 clear hW9 hW8
 clear c_p0 c_p1 c_p2 c_p3 c_p4 z_p c_r0 c_r1 c_r2 c_r3 c_r4 c_r5 z_r c_a0 c_a1 c_a2 c_a3 c_a4 c_a5 z_a f_a0 f_a1 f_a2 f_a3 f_a4 f_a5 c_q0 c_q1 c_q2 c_q3 c_q4 z_q f_q0 f_q1 f_q2 f_q3 f_q4
 obtain ⟨c_a0,c_a1,c_a2,c_a3,c_a4,c_a5,z_a⟩:=cells6 HX_a.out
 obtain ⟨c_q0,c_q1,c_q2,c_q3,c_q4,z_q⟩:=cells5 HX_q.out
 go_wp2_with fail
 exact bodyPost_ret (v:=.tuple #[.agg #[.int .i64 7,.int .i64 0,.string ⟨#[]⟩,.int .i64 m,.int .i64 0,.slice none 0 0],pv A n c k4 last x4 p4]) (by simp [results,Tryz.results46,go_sem,pv,c_a0,c_a1,c_a2,c_a3,c_a4,c_a5,c_q0,c_q1,c_q2,c_q3,c_q4]) rfl ⟨.mk 7 0 [] m 0 [],[.agg #[.int .i64 7,.int .i64 0,.string ⟨#[]⟩,.int .i64 m,.int .i64 0,.slice none 0 0]],_,_,_,rfl,HV.out,vRule_leaf _ _ 7 0 [] m 0 (by simp),HA.out,HB.out.drew⟩
set_option maxRecDepth 20000 in
set_option maxHeartbeats 2000000 in
theorem pRule8 (T:List Lx.Tok) (A:Option Addr) (c:Nat) (last:Int) (lv:Int) (hlv:¬ lv > 16)(s s1:Sx.R Unit) (R:Sx.R Sx.Rule) (k:Int) (w:World) (hc:PCtx T A w) (hp:PAt T s k 0 0) (hp1:PAt T s1 (k+1) 0 0) (hk0:0≤k) (hk1:k≤1000000) (hop:Sx.begR s=8) (hR:R=Sx.go s1 (fun l=>(Sx.ratio last l).bind fun x l=>.ok (.mk 8 0 [] x.num x.den []) l)) :
  Calls Tryz.prog 46 #[pv A T.length c k last 0 0,.int .i64 lv,.bool false] w (PRead T A c last (vRuleB w.heap.size) R w):=by
 have HC:=Lh hc
 have H1:=Lh (fun w' h=>pBegins T A c last s k 0 0 w' h hp)
 rw[hop] at H1
 have hlen:=hc.toks.len
 have HP1:=Lh hp1
 obtain ⟨n,hn⟩:∃ n,n=T.length:=⟨_,rfl⟩
 unfold PRead
 have Hn:=Lh hn
 unfold pv at H1 ⊢
 rw[←hn] at H1 hlen ⊢
 obtain ⟨W1,W2,W3,hW1,hW2,hW3,p1,p2,p3,hb,hsz⟩:=pbox6 w 38 #[.int .i64 0,.int .i64 0,.string ⟨#[]⟩,.int .i64 0,.int .i64 0,.slice none 0 0] (.slice A n c) (.int .i64 k) (.int .i64 last) (.int .i64 0) (.int .i64 0)
 have HB:=Lh hb;have HX_p:=Lh p1;have HX_a:=Lh p2;have HX_q:=Lh p3
 have HR0:=Lh hR
 clear hc hp hp1 hn hb p1 p2 p3 hR hop
 obtain ⟨c_p0,c_p1,c_p2,c_p3,c_p4,z_p⟩:=cells5 HX_p.out
 go_enter Tryz.func46,Tryz.ntmps46
 go_upto_region 1 with fail
 rw[←hW1,←hW2,←hW3]
 clear hW1 hW2 hW3
 go_wp2_with fail
 refine (H1.out _ (HC.out.next HB.out)).mono ?_
 rintro e' w1 ⟨rfl,hb⟩
 clear c_p0 c_p1 c_p2 c_p3 c_p4 z_p
 have hgz:=hb.size
 replace HB:=bmb HB hb
 replace HX_p:=bmv HX_p hb
 replace HX_a:=bmv HX_a hb
 replace HX_q:=bmv HX_q hb
 clear hb
 obtain ⟨c_p0,c_p1,c_p2,c_p3,c_p4,z_p⟩:=cells5 HX_p.out
 obtain ⟨f_p0,f_p1,f_p2,f_p3,f_p4⟩:=frees5 HX_p.out
 obtain ⟨V1,hV1⟩:∃ V,V=w1.setCell ⟨w.heap.size,1,none⟩ (.int .i64 (k+1)):=⟨_,rfl⟩
 have hsz_V1:=bss hV1
 replace HB:=bsb hV1 HB (by omega)
 replace HX_a:=bst hV1 HX_a (by omega)
 replace HX_q:=bst hV1 HX_q (by omega)
 replace HX_p:=bsc hV1 HX_p (cs':=#[.slice A n c,.int .i64 (k+1),.int .i64 last,.int .i64 0,.int .i64 0]) (by simp)
 obtain ⟨V2,hV2⟩:∃ V,V=V1.alloc (.cells #[.int .i64 8,.int .i64 0,.string ⟨#[]⟩,.int .i64 0,.int .i64 0,.slice none 0 0] 38):=⟨_,rfl⟩
 obtain ⟨HX_r,hb⟩:=bnw hV2
 have hgz:=hb.size
 replace HB:=bmb HB hb
 replace HX_p:=bmv HX_p hb
 replace HX_a:=bmv HX_a hb
 replace HX_q:=bmv HX_q hb
 clear hb
 rw[hV1] at hV2
 clear hV1
 replace HX_r:=bat (b:=w1.heap.size) HX_r hsz_V1
 have hr1:w.heap.size+1+1 < w1.heap.size:=by omega
 have hr2:w1.heap.size < V2.heap.size:=HX_r.out.lt
 go_upto_region 27 with fail
 rw[←hV2]
 clear hV2
 clear c_p0 c_p1 c_p2 c_p3 c_p4 z_p f_p0 f_p1 f_p2 f_p3 f_p4
 have HRt:=Lh (fun w' h=>pRatio T A c last s1 (k+1) 0 0 w' h HP1.out)
 unfold PRead pv at HRt
 rw[←Hn.out] at HRt
 obtain ⟨c_p0,c_p1,c_p2,c_p3,c_p4,z_p⟩:=cells5 HX_p.out
 obtain ⟨c_r0,c_r1,c_r2,c_r3,c_r4,c_r5,z_r⟩:=cells6 HX_r.out
 go_wp2_with fail
 refine (HRt.out _ (HC.out.next HB.out)).mono ?_
 rintro e' w4 ⟨m,vs,k4,x4,p4,rfl,hv,hvs,ha,hb⟩
 unfold vRatB intV at hvs
 subst hvs
 simp only[List.cons_append,List.nil_append]
 have HV:Hid (R.Val (.mk 8 0 [] m.num m.den [])):=Lh (by rw [HR0.out,←Sx.go_bind];exact hv.map (fun x:Sx.Ratio=>Sx.Rule.mk 8 0 [] x.num x.den []))
 have HA:Hid (PAt T R.void k4 x4 p4):=Lh (by rw [HR0.out,←Sx.go_bind,Sx.void_map];exact ha)
 clear hv ha HRt HR0
 clear c_p0 c_p1 c_p2 c_p3 c_p4 z_p c_r0 c_r1 c_r2 c_r3 c_r4 c_r5 z_r
 have hgz:=hb.size
 replace HB:=bmb HB hb
 replace HX_p:=bmv HX_p hb
 replace HX_a:=bmv HX_a hb
 replace HX_q:=bmv HX_q hb
 replace HX_r:=bmv HX_r hb
 clear hb
 obtain ⟨V3,hV3⟩:∃ V,V=w4.alloc (.cells #[.int .i64 m.num,.int .i64 m.den] 75):=⟨_,rfl⟩
 obtain ⟨HX_t,hb⟩:=bnw hV3
 have hgz:=hb.size
 replace HB:=bmb HB hb
 replace HX_p:=bmv HX_p hb
 replace HX_a:=bmv HX_a hb
 replace HX_q:=bmv HX_q hb
 replace HX_r:=bmv HX_r hb
 clear hb
 obtain ⟨V4,hV4⟩:∃ V,V=V3.alloc (.cells #[.slice A n c,.int .i64 k4,.int .i64 last,.int .i64 x4,.int .i64 p4] 64):=⟨_,rfl⟩
 obtain ⟨HX_u,hb⟩:=bnw hV4
 have hgz:=hb.size
 replace HB:=bmb HB hb
 replace HX_p:=bmv HX_p hb
 replace HX_a:=bmv HX_a hb
 replace HX_q:=bmv HX_q hb
 replace HX_r:=bmv HX_r hb
 replace HX_t:=bmv HX_t hb
 clear hb
 rw[hV3] at hV4
 have hsz3:V3.heap.size=w4.heap.size+1:=by rw [hV3];simp
 replace HX_u:=bat (b:=w4.heap.size+1) HX_u hsz3
 go_upto_region 28 with fail
 rw[←hV4]
 clear hV3 hV4
 obtain ⟨c_t0,c_t1,z_t⟩:=cells2 HX_t.out
 obtain ⟨c_r0,c_r1,c_r2,c_r3,c_r4,c_r5,z_r⟩:=cells6 HX_r.out
 obtain ⟨f_r0,f_r1,f_r2,f_r3,f_r4,f_r5⟩:=frees6 HX_r.out
 obtain ⟨V5,hV5⟩:∃ V,V=V4.setCell ⟨w1.heap.size,3,none⟩ (.int .i64 m.num):=⟨_,rfl⟩
 have hsz_V5:=bss hV5
 replace HB:=bsb hV5 HB (by omega)
 replace HX_p:=bst hV5 HX_p (by omega)
 replace HX_a:=bst hV5 HX_a (by omega)
 replace HX_q:=bst hV5 HX_q (by omega)
 replace HX_t:=bst hV5 HX_t (by omega)
 replace HX_u:=bst hV5 HX_u (by omega)
 replace HX_r:=bsc hV5 HX_r (cs':=#[.int .i64 8,.int .i64 0,.string ⟨#[]⟩,.int .i64 m.num,.int .i64 0,.slice none 0 0]) (by simp)
 go_upto_region 29 with fail
 rw[←hV5]
 clear hV5
 clear c_t0 c_t1 z_t c_r0 c_r1 c_r2 c_r3 c_r4 c_r5 z_r f_r0 f_r1 f_r2 f_r3 f_r4 f_r5
 obtain ⟨c_t0,c_t1,z_t⟩:=cells2 HX_t.out
 obtain ⟨c_r0,c_r1,c_r2,c_r3,c_r4,c_r5,z_r⟩:=cells6 HX_r.out
 obtain ⟨f_r0,f_r1,f_r2,f_r3,f_r4,f_r5⟩:=frees6 HX_r.out
 obtain ⟨V6,hV6⟩:∃ V,V=V5.setCell ⟨w1.heap.size,4,none⟩ (.int .i64 m.den):=⟨_,rfl⟩
 have hsz_V6:=bss hV6
 replace HB:=bsb hV6 HB (by omega)
 replace HX_p:=bst hV6 HX_p (by omega)
 replace HX_a:=bst hV6 HX_a (by omega)
 replace HX_q:=bst hV6 HX_q (by omega)
 replace HX_t:=bst hV6 HX_t (by omega)
 replace HX_u:=bst hV6 HX_u (by omega)
 replace HX_r:=bsc hV6 HX_r (cs':=#[.int .i64 8,.int .i64 0,.string ⟨#[]⟩,.int .i64 m.num,.int .i64 m.den,.slice none 0 0]) (by simp)
 go_upto_region 30 with fail
 rw[←hV6]
 clear hV6
 clear c_t0 c_t1 z_t c_r0 c_r1 c_r2 c_r3 c_r4 c_r5 z_r f_r0 f_r1 f_r2 f_r3 f_r4 f_r5
 obtain ⟨c_r0,c_r1,c_r2,c_r3,c_r4,c_r5,z_r⟩:=cells6 HX_r.out
 obtain ⟨c_u0,c_u1,c_u2,c_u3,c_u4,z_u⟩:=cells5 HX_u.out
 obtain ⟨c_a0,c_a1,c_a2,c_a3,c_a4,c_a5,z_a⟩:=cells6 HX_a.out
 obtain ⟨f_a0,f_a1,f_a2,f_a3,f_a4,f_a5⟩:=frees6 HX_a.out
 obtain ⟨c_q0,c_q1,c_q2,c_q3,c_q4,z_q⟩:=cells5 HX_q.out
 obtain ⟨f_q0,f_q1,f_q2,f_q3,f_q4⟩:=frees5 HX_q.out
 obtain ⟨W8,hW8,hxn,hfar,hbn⟩:=pstoreR HX_a.out (.int .i64 8) (.int .i64 0) (.string ⟨#[]⟩) (.int .i64 m.num) (.int .i64 m.den) (.slice none 0 0)
 replace HB:=Lh (hbn w.heap.size w HB.out (by omega))
 replace HX_p:=bfr hfar.1 HX_p (by omega)
 replace HX_q:=bfr hfar.1 HX_q (by omega)
 replace HX_r:=bfr hfar.1 HX_r (by omega)
 replace HX_t:=bfr hfar.1 HX_t (by omega)
 replace HX_u:=bfr hfar.1 HX_u (by omega)
 replace HX_a:=Lh hxn
 have hsz_W8:=hfar.2
 clear hxn hfar hbn
 obtain ⟨W9,hW9,hxn,hfar,hbn⟩:=pstoreB HX_q.out (.slice A n c) (.int .i64 k4) (.int .i64 last) (.int .i64 x4) (.int .i64 p4)
 replace HB:=Lh (hbn w.heap.size w HB.out (by omega))
 replace HX_p:=bfr hfar.1 HX_p (by omega)
 replace HX_a:=bfr hfar.1 HX_a (by omega)
 replace HX_r:=bfr hfar.1 HX_r (by omega)
 replace HX_t:=bfr hfar.1 HX_t (by omega)
 replace HX_u:=bfr hfar.1 HX_u (by omega)
 replace HX_q:=Lh hxn
 have hsz_W9:=hfar.2
 clear hxn hfar hbn
 rw[hW8] at hW9
 go_region
 rw[←hW9]
 clear hW9 hW8
 clear c_r0 c_r1 c_r2 c_r3 c_r4 c_r5 z_r c_u0 c_u1 c_u2 c_u3 c_u4 z_u c_a0 c_a1 c_a2 c_a3 c_a4 c_a5 z_a f_a0 f_a1 f_a2 f_a3 f_a4 f_a5 c_q0 c_q1 c_q2 c_q3 c_q4 z_q f_q0 f_q1 f_q2 f_q3 f_q4
 obtain ⟨c_a0,c_a1,c_a2,c_a3,c_a4,c_a5,z_a⟩:=cells6 HX_a.out
 obtain ⟨c_q0,c_q1,c_q2,c_q3,c_q4,z_q⟩:=cells5 HX_q.out
 go_wp2_with fail
 exact bodyPost_ret (v:=.tuple #[.agg #[.int .i64 8,.int .i64 0,.string ⟨#[]⟩,.int .i64 m.num,.int .i64 m.den,.slice none 0 0],pv A n c k4 last x4 p4]) (by simp [results,Tryz.results46,go_sem,pv,c_a0,c_a1,c_a2,c_a3,c_a4,c_a5,c_q0,c_q1,c_q2,c_q3,c_q4]) rfl ⟨.mk 8 0 [] m.num m.den [],[.agg #[.int .i64 8,.int .i64 0,.string ⟨#[]⟩,.int .i64 m.num,.int .i64 m.den,.slice none 0 0]],_,_,_,rfl,HV.out,vRule_leaf _ _ 8 0 [] m.num m.den (by simp),HA.out,HB.out.drew⟩
set_option maxRecDepth 20000 in
set_option maxHeartbeats 2000000 in
theorem pRule9 (T:List Lx.Tok) (A:Option Addr) (c:Nat) (last:Int) (lv:Int) (hlv:¬ lv > 16)(s s1:Sx.R Unit) (R:Sx.R Sx.Rule) (k:Int) (w:World) (hc:PCtx T A w) (hp:PAt T s k 0 0) (hp1:PAt T s1 (k+1) 0 0) (hk0:0≤k) (hk1:k≤1000000) (hop:Sx.begR s=9) (hR:R=Sx.go s1 (fun l=>(Sx.ref last l).bind fun s l=>.ok (.mk 9 s.2 s.1 0 0 []) l)) :
  Calls Tryz.prog 46 #[pv A T.length c k last 0 0,.int .i64 lv,.bool false] w (PRead T A c last (vRuleB w.heap.size) R w):=by
 have HC:=Lh hc
 have H1:=Lh (fun w' h=>pBegins T A c last s k 0 0 w' h hp)
 rw[hop] at H1
 have hlen:=hc.toks.len
 have HP1:=Lh hp1
 obtain ⟨n,hn⟩:∃ n,n=T.length:=⟨_,rfl⟩
 unfold PRead
 have Hn:=Lh hn
 unfold pv at H1 ⊢
 rw[←hn] at H1 hlen ⊢
 obtain ⟨W1,W2,W3,hW1,hW2,hW3,p1,p2,p3,hb,hsz⟩:=pbox6 w 38 #[.int .i64 0,.int .i64 0,.string ⟨#[]⟩,.int .i64 0,.int .i64 0,.slice none 0 0] (.slice A n c) (.int .i64 k) (.int .i64 last) (.int .i64 0) (.int .i64 0)
 have HB:=Lh hb;have HX_p:=Lh p1;have HX_a:=Lh p2;have HX_q:=Lh p3
 have HR0:=Lh hR
 clear hc hp hp1 hn hb p1 p2 p3 hR hop
 obtain ⟨c_p0,c_p1,c_p2,c_p3,c_p4,z_p⟩:=cells5 HX_p.out
 go_enter Tryz.func46,Tryz.ntmps46
 go_upto_region 1 with fail
 rw[←hW1,←hW2,←hW3]
 clear hW1 hW2 hW3
 go_wp2_with fail
 refine (H1.out _ (HC.out.next HB.out)).mono ?_
 rintro e' w1 ⟨rfl,hb⟩
 clear c_p0 c_p1 c_p2 c_p3 c_p4 z_p
 have hgz:=hb.size
 replace HB:=bmb HB hb
 replace HX_p:=bmv HX_p hb
 replace HX_a:=bmv HX_a hb
 replace HX_q:=bmv HX_q hb
 clear hb
 obtain ⟨c_p0,c_p1,c_p2,c_p3,c_p4,z_p⟩:=cells5 HX_p.out
 obtain ⟨f_p0,f_p1,f_p2,f_p3,f_p4⟩:=frees5 HX_p.out
 obtain ⟨V1,hV1⟩:∃ V,V=w1.setCell ⟨w.heap.size,1,none⟩ (.int .i64 (k+1)):=⟨_,rfl⟩
 have hsz_V1:=bss hV1
 replace HB:=bsb hV1 HB (by omega)
 replace HX_a:=bst hV1 HX_a (by omega)
 replace HX_q:=bst hV1 HX_q (by omega)
 replace HX_p:=bsc hV1 HX_p (cs':=#[.slice A n c,.int .i64 (k+1),.int .i64 last,.int .i64 0,.int .i64 0]) (by simp)
 obtain ⟨V2,hV2⟩:∃ V,V=V1.alloc (.cells #[.int .i64 9,.int .i64 0,.string ⟨#[]⟩,.int .i64 0,.int .i64 0,.slice none 0 0] 38):=⟨_,rfl⟩
 obtain ⟨HX_r,hb⟩:=bnw hV2
 have hgz:=hb.size
 replace HB:=bmb HB hb
 replace HX_p:=bmv HX_p hb
 replace HX_a:=bmv HX_a hb
 replace HX_q:=bmv HX_q hb
 clear hb
 rw[hV1] at hV2
 clear hV1
 replace HX_r:=bat (b:=w1.heap.size) HX_r hsz_V1
 have hr1:w.heap.size+1+1 < w1.heap.size:=by omega
 have hr2:w1.heap.size < V2.heap.size:=HX_r.out.lt
 go_upto_region 32 with fail
 rw[←hV2]
 clear hV2
 clear c_p0 c_p1 c_p2 c_p3 c_p4 z_p f_p0 f_p1 f_p2 f_p3 f_p4
 have HRf:=Lh (fun w' h=>pRef T A c last s1 (k+1) 0 0 w' h HP1.out)
 unfold PRead pv at HRf
 rw[←Hn.out] at HRf
 obtain ⟨c_p0,c_p1,c_p2,c_p3,c_p4,z_p⟩:=cells5 HX_p.out
 obtain ⟨c_r0,c_r1,c_r2,c_r3,c_r4,c_r5,z_r⟩:=cells6 HX_r.out
 go_wp2_with fail
 refine (HRf.out _ (HC.out.next HB.out)).mono ?_
 rintro e' w4 ⟨⟨nm,co⟩,vs,k4,x4,p4,rfl,hv,hvs,ha,hb⟩
 obtain ⟨hvs,hnl⟩:=hvs
 unfold strV intV at hvs
 dsimp only at hvs hnl
 subst hvs
 simp only[List.cons_append,List.nil_append]
 have HL:=Lh hnl
 clear hnl
 have HV:Hid (R.Val (.mk 9 co nm 0 0 [])):=Lh (by rw [HR0.out,←Sx.go_bind];exact hv.map (fun x:List UInt8 × Int=>Sx.Rule.mk 9 x.2 x.1 0 0 []))
 have HA:Hid (PAt T R.void k4 x4 p4):=Lh (by rw [HR0.out,←Sx.go_bind,Sx.void_map];exact ha)
 clear hv ha HRf HR0
 clear c_p0 c_p1 c_p2 c_p3 c_p4 z_p c_r0 c_r1 c_r2 c_r3 c_r4 c_r5 z_r
 have hgz:=hb.size
 replace HB:=bmb HB hb
 replace HX_p:=bmv HX_p hb
 replace HX_a:=bmv HX_a hb
 replace HX_q:=bmv HX_q hb
 replace HX_r:=bmv HX_r hb
 clear hb
 obtain ⟨c_p0,c_p1,c_p2,c_p3,c_p4,z_p⟩:=cells5 HX_p.out
 obtain ⟨f_p0,f_p1,f_p2,f_p3,f_p4⟩:=frees5 HX_p.out
 obtain ⟨c_r0,c_r1,c_r2,c_r3,c_r4,c_r5,z_r⟩:=cells6 HX_r.out
 obtain ⟨f_r0,f_r1,f_r2,f_r3,f_r4,f_r5⟩:=frees6 HX_r.out
 obtain ⟨V3,hV3⟩:∃ V,V=w4.setCell ⟨w1.heap.size,2,none⟩ (.string (Lx.bs nm)):=⟨_,rfl⟩
 have hsz_V3:=bss hV3
 replace HB:=bsb hV3 HB (by omega)
 replace HX_p:=bst hV3 HX_p (by omega)
 replace HX_a:=bst hV3 HX_a (by omega)
 replace HX_q:=bst hV3 HX_q (by omega)
 replace HX_r:=bsc hV3 HX_r (cs':=#[.int .i64 9,.int .i64 0,.string (Lx.bs nm),.int .i64 0,.int .i64 0,.slice none 0 0]) (by simp)
 obtain ⟨V4,hV4⟩:∃ V,V=V3.setCell ⟨w1.heap.size,1,none⟩ (.int .i64 co):=⟨_,rfl⟩
 have hsz_V4:=bss hV4
 replace HB:=bsb hV4 HB (by omega)
 replace HX_p:=bst hV4 HX_p (by omega)
 replace HX_a:=bst hV4 HX_a (by omega)
 replace HX_q:=bst hV4 HX_q (by omega)
 replace HX_r:=bsc hV4 HX_r (cs':=#[.int .i64 9,.int .i64 co,.string (Lx.bs nm),.int .i64 0,.int .i64 0,.slice none 0 0]) (by simp)
 obtain ⟨V5,hV5,hxn,hfar,hbn⟩:=pstoreB HX_p.out (.slice A n c) (.int .i64 k4) (.int .i64 last) (.int .i64 x4) (.int .i64 p4)
 replace HB:=Lh (hbn w.heap.size w HB.out (by omega))
 replace HX_a:=bfr hfar.1 HX_a (by omega)
 replace HX_q:=bfr hfar.1 HX_q (by omega)
 replace HX_r:=bfr hfar.1 HX_r (by omega)
 replace HX_p:=Lh hxn
 have hsz_V5:=hfar.2
 clear hxn hfar hbn
 rw[hV3] at hV4
 rw[hV4] at hV5
 go_upto_region 33 with fail
 rw[←hV5]
 clear hV3 hV4 hV5
 clear c_p0 c_p1 c_p2 c_p3 c_p4 z_p f_p0 f_p1 f_p2 f_p3 f_p4 c_r0 c_r1 c_r2 c_r3 c_r4 c_r5 z_r f_r0 f_r1 f_r2 f_r3 f_r4 f_r5
 obtain ⟨c_p0,c_p1,c_p2,c_p3,c_p4,z_p⟩:=cells5 HX_p.out
 obtain ⟨c_r0,c_r1,c_r2,c_r3,c_r4,c_r5,z_r⟩:=cells6 HX_r.out
 obtain ⟨c_a0,c_a1,c_a2,c_a3,c_a4,c_a5,z_a⟩:=cells6 HX_a.out
 obtain ⟨f_a0,f_a1,f_a2,f_a3,f_a4,f_a5⟩:=frees6 HX_a.out
 obtain ⟨c_q0,c_q1,c_q2,c_q3,c_q4,z_q⟩:=cells5 HX_q.out
 obtain ⟨f_q0,f_q1,f_q2,f_q3,f_q4⟩:=frees5 HX_q.out
 obtain ⟨W8,hW8,hxn,hfar,hbn⟩:=pstoreR HX_a.out (.int .i64 9) (.int .i64 co) (.string (Lx.bs nm)) (.int .i64 0) (.int .i64 0) (.slice none 0 0)
 replace HB:=Lh (hbn w.heap.size w HB.out (by omega))
 replace HX_p:=bfr hfar.1 HX_p (by omega)
 replace HX_q:=bfr hfar.1 HX_q (by omega)
 replace HX_r:=bfr hfar.1 HX_r (by omega)
 replace HX_a:=Lh hxn
 have hsz_W8:=hfar.2
 clear hxn hfar hbn
 obtain ⟨W9,hW9,hxn,hfar,hbn⟩:=pstoreB HX_q.out (.slice A n c) (.int .i64 k4) (.int .i64 last) (.int .i64 x4) (.int .i64 p4)
 replace HB:=Lh (hbn w.heap.size w HB.out (by omega))
 replace HX_p:=bfr hfar.1 HX_p (by omega)
 replace HX_a:=bfr hfar.1 HX_a (by omega)
 replace HX_r:=bfr hfar.1 HX_r (by omega)
 replace HX_q:=Lh hxn
 have hsz_W9:=hfar.2
 clear hxn hfar hbn
 rw[hW8] at hW9
 go_region
 rw[←hW9]
 clear hW9 hW8
 clear c_p0 c_p1 c_p2 c_p3 c_p4 z_p c_r0 c_r1 c_r2 c_r3 c_r4 c_r5 z_r c_a0 c_a1 c_a2 c_a3 c_a4 c_a5 z_a f_a0 f_a1 f_a2 f_a3 f_a4 f_a5 c_q0 c_q1 c_q2 c_q3 c_q4 z_q f_q0 f_q1 f_q2 f_q3 f_q4
 obtain ⟨c_a0,c_a1,c_a2,c_a3,c_a4,c_a5,z_a⟩:=cells6 HX_a.out
 obtain ⟨c_q0,c_q1,c_q2,c_q3,c_q4,z_q⟩:=cells5 HX_q.out
 go_wp2_with fail
 exact bodyPost_ret (v:=.tuple #[.agg #[.int .i64 9,.int .i64 co,.string (Lx.bs nm),.int .i64 0,.int .i64 0,.slice none 0 0],pv A n c k4 last x4 p4]) (by simp [results,Tryz.results46,go_sem,pv,c_a0,c_a1,c_a2,c_a3,c_a4,c_a5,c_q0,c_q1,c_q2,c_q3,c_q4]) rfl ⟨.mk 9 co nm 0 0 [],[.agg #[.int .i64 9,.int .i64 co,.string (Lx.bs nm),.int .i64 0,.int .i64 0,.slice none 0 0]],_,_,_,rfl,HV.out,vRule_leaf _ _ 9 co nm 0 0 HL.out,HA.out,HB.out.drew⟩
set_option maxRecDepth 20000 in
set_option maxHeartbeats 2000000 in
theorem pRule5 (T:List Lx.Tok) (A:Option Addr) (c:Nat) (last:Int) (lv:Int) (hlv:¬ lv > 16)(s s1:Sx.R Unit) (R:Sx.R Sx.Rule) (k:Int) (w:World) (hc:PCtx T A w) (hp:PAt T s k 0 0) (hp1:PAt T s1 (k+1) 0 0) (hk0:0≤k) (hk1:k≤1000000) (hop:Sx.begR s=5) (hR:R=Sx.go s1 (fun l=>(Sx.ref last l).bind fun s l=>(Sx.number last 0 12 l).bind fun n l=>.ok (.mk 5 s.2 s.1 n 0 []) l)) :
  Calls Tryz.prog 46 #[pv A T.length c k last 0 0,.int .i64 lv,.bool false] w (PRead T A c last (vRuleB w.heap.size) R w):=by
 have HC:=Lh hc
 have H1:=Lh (fun w' h=>pBegins T A c last s k 0 0 w' h hp)
 rw[hop] at H1
 have hlen:=hc.toks.len
 have HP1:=Lh hp1
 obtain ⟨n,hn⟩:∃ n,n=T.length:=⟨_,rfl⟩
 unfold PRead
 have Hn:=Lh hn
 unfold pv at H1 ⊢
 rw[←hn] at H1 hlen ⊢
 obtain ⟨W1,W2,W3,hW1,hW2,hW3,p1,p2,p3,hb,hsz⟩:=pbox6 w 38 #[.int .i64 0,.int .i64 0,.string ⟨#[]⟩,.int .i64 0,.int .i64 0,.slice none 0 0] (.slice A n c) (.int .i64 k) (.int .i64 last) (.int .i64 0) (.int .i64 0)
 have HB:=Lh hb;have HX_p:=Lh p1;have HX_a:=Lh p2;have HX_q:=Lh p3
 have HR0:=Lh hR
 clear hc hp hp1 hn hb p1 p2 p3 hR hop
 obtain ⟨c_p0,c_p1,c_p2,c_p3,c_p4,z_p⟩:=cells5 HX_p.out
 go_enter Tryz.func46,Tryz.ntmps46
 go_upto_region 1 with fail
 rw[←hW1,←hW2,←hW3]
 clear hW1 hW2 hW3
 go_wp2_with fail
 refine (H1.out _ (HC.out.next HB.out)).mono ?_
 rintro e' w1 ⟨rfl,hb⟩
 clear c_p0 c_p1 c_p2 c_p3 c_p4 z_p
 have hgz:=hb.size
 replace HB:=bmb HB hb
 replace HX_p:=bmv HX_p hb
 replace HX_a:=bmv HX_a hb
 replace HX_q:=bmv HX_q hb
 clear hb
 obtain ⟨c_p0,c_p1,c_p2,c_p3,c_p4,z_p⟩:=cells5 HX_p.out
 obtain ⟨f_p0,f_p1,f_p2,f_p3,f_p4⟩:=frees5 HX_p.out
 obtain ⟨V1,hV1⟩:∃ V,V=w1.setCell ⟨w.heap.size,1,none⟩ (.int .i64 (k+1)):=⟨_,rfl⟩
 have hsz_V1:=bss hV1
 replace HB:=bsb hV1 HB (by omega)
 replace HX_a:=bst hV1 HX_a (by omega)
 replace HX_q:=bst hV1 HX_q (by omega)
 replace HX_p:=bsc hV1 HX_p (cs':=#[.slice A n c,.int .i64 (k+1),.int .i64 last,.int .i64 0,.int .i64 0]) (by simp)
 obtain ⟨V2,hV2⟩:∃ V,V=V1.alloc (.cells #[.int .i64 5,.int .i64 0,.string ⟨#[]⟩,.int .i64 0,.int .i64 0,.slice none 0 0] 38):=⟨_,rfl⟩
 obtain ⟨HX_r,hb⟩:=bnw hV2
 have hgz:=hb.size
 replace HB:=bmb HB hb
 replace HX_p:=bmv HX_p hb
 replace HX_a:=bmv HX_a hb
 replace HX_q:=bmv HX_q hb
 clear hb
 rw[hV1] at hV2
 clear hV1
 replace HX_r:=bat (b:=w1.heap.size) HX_r hsz_V1
 have hr1:w.heap.size+1+1 < w1.heap.size:=by omega
 have hr2:w1.heap.size < V2.heap.size:=HX_r.out.lt
 go_upto_region 16 with fail
 rw[←hV2]
 clear hV2
 clear c_p0 c_p1 c_p2 c_p3 c_p4 z_p f_p0 f_p1 f_p2 f_p3 f_p4
 have HRf:=Lh (fun w' h=>pRef T A c last s1 (k+1) 0 0 w' h HP1.out)
 unfold PRead pv at HRf
 rw[←Hn.out] at HRf
 obtain ⟨c_p0,c_p1,c_p2,c_p3,c_p4,z_p⟩:=cells5 HX_p.out
 obtain ⟨c_r0,c_r1,c_r2,c_r3,c_r4,c_r5,z_r⟩:=cells6 HX_r.out
 go_wp2_with fail
 refine (HRf.out _ (HC.out.next HB.out)).mono ?_
 rintro e' w4 ⟨⟨nm,co⟩,vs,k4,x4,p4,rfl,hv,hvs,ha,hb⟩
 obtain ⟨hvs,hnl⟩:=hvs
 unfold strV intV at hvs
 dsimp only at hvs hnl
 subst hvs
 simp only[List.cons_append,List.nil_append]
 have HL:=Lh hnl
 clear hnl
 obtain ⟨s2,hs2⟩:∃ s2,s2=(Sx.go s1 (Sx.ref last)).void:=⟨_,rfl⟩
 have HR2:Hid (R=Sx.go s2 fun l=>(Sx.number last 0 12 l).bind fun n l=>.ok (.mk 5 co nm n 0 []) l):=Lh (by rw [HR0.out,hs2];exact hv.step _)
 rw[←hs2] at ha
 have HP2:=Lh ha
 clear hv ha HRf HR0 hs2
 clear c_p0 c_p1 c_p2 c_p3 c_p4 z_p c_r0 c_r1 c_r2 c_r3 c_r4 c_r5 z_r
 have hgz:=hb.size
 replace HB:=bmb HB hb
 replace HX_p:=bmv HX_p hb
 replace HX_a:=bmv HX_a hb
 replace HX_q:=bmv HX_q hb
 replace HX_r:=bmv HX_r hb
 clear hb
 obtain ⟨c_p0,c_p1,c_p2,c_p3,c_p4,z_p⟩:=cells5 HX_p.out
 obtain ⟨f_p0,f_p1,f_p2,f_p3,f_p4⟩:=frees5 HX_p.out
 obtain ⟨c_r0,c_r1,c_r2,c_r3,c_r4,c_r5,z_r⟩:=cells6 HX_r.out
 obtain ⟨f_r0,f_r1,f_r2,f_r3,f_r4,f_r5⟩:=frees6 HX_r.out
 obtain ⟨V3,hV3⟩:∃ V,V=w4.setCell ⟨w1.heap.size,2,none⟩ (.string (Lx.bs nm)):=⟨_,rfl⟩
 have hsz_V3:=bss hV3
 replace HB:=bsb hV3 HB (by omega)
 replace HX_p:=bst hV3 HX_p (by omega)
 replace HX_a:=bst hV3 HX_a (by omega)
 replace HX_q:=bst hV3 HX_q (by omega)
 replace HX_r:=bsc hV3 HX_r (cs':=#[.int .i64 5,.int .i64 0,.string (Lx.bs nm),.int .i64 0,.int .i64 0,.slice none 0 0]) (by simp)
 obtain ⟨V4,hV4⟩:∃ V,V=V3.setCell ⟨w1.heap.size,1,none⟩ (.int .i64 co):=⟨_,rfl⟩
 have hsz_V4:=bss hV4
 replace HB:=bsb hV4 HB (by omega)
 replace HX_p:=bst hV4 HX_p (by omega)
 replace HX_a:=bst hV4 HX_a (by omega)
 replace HX_q:=bst hV4 HX_q (by omega)
 replace HX_r:=bsc hV4 HX_r (cs':=#[.int .i64 5,.int .i64 co,.string (Lx.bs nm),.int .i64 0,.int .i64 0,.slice none 0 0]) (by simp)
 obtain ⟨V5,hV5,hxn,hfar,hbn⟩:=pstoreB HX_p.out (.slice A n c) (.int .i64 k4) (.int .i64 last) (.int .i64 x4) (.int .i64 p4)
 replace HB:=Lh (hbn w.heap.size w HB.out (by omega))
 replace HX_a:=bfr hfar.1 HX_a (by omega)
 replace HX_q:=bfr hfar.1 HX_q (by omega)
 replace HX_r:=bfr hfar.1 HX_r (by omega)
 replace HX_p:=Lh hxn
 have hsz_V5:=hfar.2
 clear hxn hfar hbn
 rw[hV3] at hV4
 rw[hV4] at hV5
 go_upto_region 17 with fail
 rw[←hV5]
 clear hV3 hV4 hV5
 clear c_p0 c_p1 c_p2 c_p3 c_p4 z_p f_p0 f_p1 f_p2 f_p3 f_p4 c_r0 c_r1 c_r2 c_r3 c_r4 c_r5 z_r f_r0 f_r1 f_r2 f_r3 f_r4 f_r5
 have HNum:=Lh (fun w' h=>pNumber T A c last 0 12 s2 k4 x4 p4 w' h HP2.out)
 unfold PRead pv at HNum
 rw[←Hn.out] at HNum
 obtain ⟨c_p0,c_p1,c_p2,c_p3,c_p4,z_p⟩:=cells5 HX_p.out
 obtain ⟨c_r0,c_r1,c_r2,c_r3,c_r4,c_r5,z_r⟩:=cells6 HX_r.out
 go_wp2_with fail
 refine (HNum.out _ (HC.out.next HB.out)).mono ?_
 rintro e' w6 ⟨m,vs,k6,x6,p6,rfl,hv,hvs,ha,hb⟩
 unfold vInts intV at hvs
 subst hvs
 simp only[List.cons_append,List.nil_append]
 have HV:Hid (R.Val (.mk 5 co nm m 0 [])):=Lh (by rw [HR2.out,←Sx.go_bind];exact hv.map _)
 have HA:Hid (PAt T R.void k6 x6 p6):=Lh (by rw [HR2.out,←Sx.go_bind,Sx.void_map];exact ha)
 clear hv ha HNum HR2
 clear c_p0 c_p1 c_p2 c_p3 c_p4 z_p c_r0 c_r1 c_r2 c_r3 c_r4 c_r5 z_r
 have hgz:=hb.size
 replace HB:=bmb HB hb
 replace HX_p:=bmv HX_p hb
 replace HX_a:=bmv HX_a hb
 replace HX_q:=bmv HX_q hb
 replace HX_r:=bmv HX_r hb
 clear hb
 obtain ⟨c_p0,c_p1,c_p2,c_p3,c_p4,z_p⟩:=cells5 HX_p.out
 obtain ⟨f_p0,f_p1,f_p2,f_p3,f_p4⟩:=frees5 HX_p.out
 obtain ⟨c_r0,c_r1,c_r2,c_r3,c_r4,c_r5,z_r⟩:=cells6 HX_r.out
 obtain ⟨f_r0,f_r1,f_r2,f_r3,f_r4,f_r5⟩:=frees6 HX_r.out
 obtain ⟨V6,hV6⟩:∃ V,V=w6.setCell ⟨w1.heap.size,3,none⟩ (.int .i64 m):=⟨_,rfl⟩
 have hsz_V6:=bss hV6
 replace HB:=bsb hV6 HB (by omega)
 replace HX_p:=bst hV6 HX_p (by omega)
 replace HX_a:=bst hV6 HX_a (by omega)
 replace HX_q:=bst hV6 HX_q (by omega)
 replace HX_r:=bsc hV6 HX_r (cs':=#[.int .i64 5,.int .i64 co,.string (Lx.bs nm),.int .i64 m,.int .i64 0,.slice none 0 0]) (by simp)
 obtain ⟨V7,hV7,hxn,hfar,hbn⟩:=pstoreB HX_p.out (.slice A n c) (.int .i64 k6) (.int .i64 last) (.int .i64 x6) (.int .i64 p6)
 replace HB:=Lh (hbn w.heap.size w HB.out (by omega))
 replace HX_a:=bfr hfar.1 HX_a (by omega)
 replace HX_q:=bfr hfar.1 HX_q (by omega)
 replace HX_r:=bfr hfar.1 HX_r (by omega)
 replace HX_p:=Lh hxn
 have hsz_V7:=hfar.2
 clear hxn hfar hbn
 rw[hV6] at hV7
 go_upto_region 18 with fail
 rw[←hV7]
 clear hV6 hV7
 clear c_p0 c_p1 c_p2 c_p3 c_p4 z_p f_p0 f_p1 f_p2 f_p3 f_p4 c_r0 c_r1 c_r2 c_r3 c_r4 c_r5 z_r f_r0 f_r1 f_r2 f_r3 f_r4 f_r5
 obtain ⟨c_p0,c_p1,c_p2,c_p3,c_p4,z_p⟩:=cells5 HX_p.out
 obtain ⟨c_r0,c_r1,c_r2,c_r3,c_r4,c_r5,z_r⟩:=cells6 HX_r.out
 obtain ⟨c_a0,c_a1,c_a2,c_a3,c_a4,c_a5,z_a⟩:=cells6 HX_a.out
 obtain ⟨f_a0,f_a1,f_a2,f_a3,f_a4,f_a5⟩:=frees6 HX_a.out
 obtain ⟨c_q0,c_q1,c_q2,c_q3,c_q4,z_q⟩:=cells5 HX_q.out
 obtain ⟨f_q0,f_q1,f_q2,f_q3,f_q4⟩:=frees5 HX_q.out
 obtain ⟨W8,hW8,hxn,hfar,hbn⟩:=pstoreR HX_a.out (.int .i64 5) (.int .i64 co) (.string (Lx.bs nm)) (.int .i64 m) (.int .i64 0) (.slice none 0 0)
 replace HB:=Lh (hbn w.heap.size w HB.out (by omega))
 replace HX_p:=bfr hfar.1 HX_p (by omega)
 replace HX_q:=bfr hfar.1 HX_q (by omega)
 replace HX_r:=bfr hfar.1 HX_r (by omega)
 replace HX_a:=Lh hxn
 have hsz_W8:=hfar.2
 clear hxn hfar hbn
 obtain ⟨W9,hW9,hxn,hfar,hbn⟩:=pstoreB HX_q.out (.slice A n c) (.int .i64 k6) (.int .i64 last) (.int .i64 x6) (.int .i64 p6)
 replace HB:=Lh (hbn w.heap.size w HB.out (by omega))
 replace HX_p:=bfr hfar.1 HX_p (by omega)
 replace HX_a:=bfr hfar.1 HX_a (by omega)
 replace HX_r:=bfr hfar.1 HX_r (by omega)
 replace HX_q:=Lh hxn
 have hsz_W9:=hfar.2
 clear hxn hfar hbn
 rw[hW8] at hW9
 go_region
 rw[←hW9]
 clear hW9 hW8
 clear c_p0 c_p1 c_p2 c_p3 c_p4 z_p c_r0 c_r1 c_r2 c_r3 c_r4 c_r5 z_r c_a0 c_a1 c_a2 c_a3 c_a4 c_a5 z_a f_a0 f_a1 f_a2 f_a3 f_a4 f_a5 c_q0 c_q1 c_q2 c_q3 c_q4 z_q f_q0 f_q1 f_q2 f_q3 f_q4
 obtain ⟨c_a0,c_a1,c_a2,c_a3,c_a4,c_a5,z_a⟩:=cells6 HX_a.out
 obtain ⟨c_q0,c_q1,c_q2,c_q3,c_q4,z_q⟩:=cells5 HX_q.out
 go_wp2_with fail
 exact bodyPost_ret (v:=.tuple #[.agg #[.int .i64 5,.int .i64 co,.string (Lx.bs nm),.int .i64 m,.int .i64 0,.slice none 0 0],pv A n c k6 last x6 p6]) (by simp [results,Tryz.results46,go_sem,pv,c_a0,c_a1,c_a2,c_a3,c_a4,c_a5,c_q0,c_q1,c_q2,c_q3,c_q4]) rfl ⟨.mk 5 co nm m 0 [],[.agg #[.int .i64 5,.int .i64 co,.string (Lx.bs nm),.int .i64 m,.int .i64 0,.slice none 0 0]],_,_,_,rfl,HV.out,vRule_leaf _ _ 5 co nm m 0 HL.out,HA.out,HB.out.drew⟩
set_option maxRecDepth 20000 in
set_option maxHeartbeats 2000000 in
theorem pRule6 (T:List Lx.Tok) (A:Option Addr) (c:Nat) (last:Int) (lv:Int) (hlv:¬ lv > 16)(s s1:Sx.R Unit) (R:Sx.R Sx.Rule) (k:Int) (w:World) (hc:PCtx T A w) (hp:PAt T s k 0 0) (hp1:PAt T s1 (k+1) 0 0) (hk0:0≤k) (hk1:k≤1000000) (hop:Sx.begR s=6) (hR:R=Sx.go s1 (fun l=>(Sx.ref last l).bind fun s l=>(Sx.number last 1 100 l).bind fun n l=>.ok (.mk 6 s.2 s.1 n 0 []) l)) :
  Calls Tryz.prog 46 #[pv A T.length c k last 0 0,.int .i64 lv,.bool false] w (PRead T A c last (vRuleB w.heap.size) R w):=by
 have HC:=Lh hc
 have H1:=Lh (fun w' h=>pBegins T A c last s k 0 0 w' h hp)
 rw[hop] at H1
 have hlen:=hc.toks.len
 have HP1:=Lh hp1
 obtain ⟨n,hn⟩:∃ n,n=T.length:=⟨_,rfl⟩
 unfold PRead
 have Hn:=Lh hn
 unfold pv at H1 ⊢
 rw[←hn] at H1 hlen ⊢
 obtain ⟨W1,W2,W3,hW1,hW2,hW3,p1,p2,p3,hb,hsz⟩:=pbox6 w 38 #[.int .i64 0,.int .i64 0,.string ⟨#[]⟩,.int .i64 0,.int .i64 0,.slice none 0 0] (.slice A n c) (.int .i64 k) (.int .i64 last) (.int .i64 0) (.int .i64 0)
 have HB:=Lh hb;have HX_p:=Lh p1;have HX_a:=Lh p2;have HX_q:=Lh p3
 have HR0:=Lh hR
 clear hc hp hp1 hn hb p1 p2 p3 hR hop
 obtain ⟨c_p0,c_p1,c_p2,c_p3,c_p4,z_p⟩:=cells5 HX_p.out
 go_enter Tryz.func46,Tryz.ntmps46
 go_upto_region 1 with fail
 rw[←hW1,←hW2,←hW3]
 clear hW1 hW2 hW3
 go_wp2_with fail
 refine (H1.out _ (HC.out.next HB.out)).mono ?_
 rintro e' w1 ⟨rfl,hb⟩
 clear c_p0 c_p1 c_p2 c_p3 c_p4 z_p
 have hgz:=hb.size
 replace HB:=bmb HB hb
 replace HX_p:=bmv HX_p hb
 replace HX_a:=bmv HX_a hb
 replace HX_q:=bmv HX_q hb
 clear hb
 obtain ⟨c_p0,c_p1,c_p2,c_p3,c_p4,z_p⟩:=cells5 HX_p.out
 obtain ⟨f_p0,f_p1,f_p2,f_p3,f_p4⟩:=frees5 HX_p.out
 obtain ⟨V1,hV1⟩:∃ V,V=w1.setCell ⟨w.heap.size,1,none⟩ (.int .i64 (k+1)):=⟨_,rfl⟩
 have hsz_V1:=bss hV1
 replace HB:=bsb hV1 HB (by omega)
 replace HX_a:=bst hV1 HX_a (by omega)
 replace HX_q:=bst hV1 HX_q (by omega)
 replace HX_p:=bsc hV1 HX_p (cs':=#[.slice A n c,.int .i64 (k+1),.int .i64 last,.int .i64 0,.int .i64 0]) (by simp)
 obtain ⟨V2,hV2⟩:∃ V,V=V1.alloc (.cells #[.int .i64 6,.int .i64 0,.string ⟨#[]⟩,.int .i64 0,.int .i64 0,.slice none 0 0] 38):=⟨_,rfl⟩
 obtain ⟨HX_r,hb⟩:=bnw hV2
 have hgz:=hb.size
 replace HB:=bmb HB hb
 replace HX_p:=bmv HX_p hb
 replace HX_a:=bmv HX_a hb
 replace HX_q:=bmv HX_q hb
 clear hb
 rw[hV1] at hV2
 clear hV1
 replace HX_r:=bat (b:=w1.heap.size) HX_r hsz_V1
 have hr1:w.heap.size+1+1 < w1.heap.size:=by omega
 have hr2:w1.heap.size < V2.heap.size:=HX_r.out.lt
 go_upto_region 20 with fail
 rw[←hV2]
 clear hV2
 clear c_p0 c_p1 c_p2 c_p3 c_p4 z_p f_p0 f_p1 f_p2 f_p3 f_p4
 have HRf:=Lh (fun w' h=>pRef T A c last s1 (k+1) 0 0 w' h HP1.out)
 unfold PRead pv at HRf
 rw[←Hn.out] at HRf
 obtain ⟨c_p0,c_p1,c_p2,c_p3,c_p4,z_p⟩:=cells5 HX_p.out
 obtain ⟨c_r0,c_r1,c_r2,c_r3,c_r4,c_r5,z_r⟩:=cells6 HX_r.out
 go_wp2_with fail
 refine (HRf.out _ (HC.out.next HB.out)).mono ?_
 rintro e' w4 ⟨⟨nm,co⟩,vs,k4,x4,p4,rfl,hv,hvs,ha,hb⟩
 obtain ⟨hvs,hnl⟩:=hvs
 unfold strV intV at hvs
 dsimp only at hvs hnl
 subst hvs
 simp only[List.cons_append,List.nil_append]
 have HL:=Lh hnl
 clear hnl
 obtain ⟨s2,hs2⟩:∃ s2,s2=(Sx.go s1 (Sx.ref last)).void:=⟨_,rfl⟩
 have HR2:Hid (R=Sx.go s2 fun l=>(Sx.number last 1 100 l).bind fun n l=>.ok (.mk 6 co nm n 0 []) l):=Lh (by rw [HR0.out,hs2];exact hv.step _)
 rw[←hs2] at ha
 have HP2:=Lh ha
 clear hv ha HRf HR0 hs2
 clear c_p0 c_p1 c_p2 c_p3 c_p4 z_p c_r0 c_r1 c_r2 c_r3 c_r4 c_r5 z_r
 have hgz:=hb.size
 replace HB:=bmb HB hb
 replace HX_p:=bmv HX_p hb
 replace HX_a:=bmv HX_a hb
 replace HX_q:=bmv HX_q hb
 replace HX_r:=bmv HX_r hb
 clear hb
 obtain ⟨c_p0,c_p1,c_p2,c_p3,c_p4,z_p⟩:=cells5 HX_p.out
 obtain ⟨f_p0,f_p1,f_p2,f_p3,f_p4⟩:=frees5 HX_p.out
 obtain ⟨c_r0,c_r1,c_r2,c_r3,c_r4,c_r5,z_r⟩:=cells6 HX_r.out
 obtain ⟨f_r0,f_r1,f_r2,f_r3,f_r4,f_r5⟩:=frees6 HX_r.out
 obtain ⟨V3,hV3⟩:∃ V,V=w4.setCell ⟨w1.heap.size,2,none⟩ (.string (Lx.bs nm)):=⟨_,rfl⟩
 have hsz_V3:=bss hV3
 replace HB:=bsb hV3 HB (by omega)
 replace HX_p:=bst hV3 HX_p (by omega)
 replace HX_a:=bst hV3 HX_a (by omega)
 replace HX_q:=bst hV3 HX_q (by omega)
 replace HX_r:=bsc hV3 HX_r (cs':=#[.int .i64 6,.int .i64 0,.string (Lx.bs nm),.int .i64 0,.int .i64 0,.slice none 0 0]) (by simp)
 obtain ⟨V4,hV4⟩:∃ V,V=V3.setCell ⟨w1.heap.size,1,none⟩ (.int .i64 co):=⟨_,rfl⟩
 have hsz_V4:=bss hV4
 replace HB:=bsb hV4 HB (by omega)
 replace HX_p:=bst hV4 HX_p (by omega)
 replace HX_a:=bst hV4 HX_a (by omega)
 replace HX_q:=bst hV4 HX_q (by omega)
 replace HX_r:=bsc hV4 HX_r (cs':=#[.int .i64 6,.int .i64 co,.string (Lx.bs nm),.int .i64 0,.int .i64 0,.slice none 0 0]) (by simp)
 obtain ⟨V5,hV5,hxn,hfar,hbn⟩:=pstoreB HX_p.out (.slice A n c) (.int .i64 k4) (.int .i64 last) (.int .i64 x4) (.int .i64 p4)
 replace HB:=Lh (hbn w.heap.size w HB.out (by omega))
 replace HX_a:=bfr hfar.1 HX_a (by omega)
 replace HX_q:=bfr hfar.1 HX_q (by omega)
 replace HX_r:=bfr hfar.1 HX_r (by omega)
 replace HX_p:=Lh hxn
 have hsz_V5:=hfar.2
 clear hxn hfar hbn
 rw[hV3] at hV4
 rw[hV4] at hV5
 go_upto_region 21 with fail
 rw[←hV5]
 clear hV3 hV4 hV5
 clear c_p0 c_p1 c_p2 c_p3 c_p4 z_p f_p0 f_p1 f_p2 f_p3 f_p4 c_r0 c_r1 c_r2 c_r3 c_r4 c_r5 z_r f_r0 f_r1 f_r2 f_r3 f_r4 f_r5
 have HNum:=Lh (fun w' h=>pNumber T A c last 1 100 s2 k4 x4 p4 w' h HP2.out)
 unfold PRead pv at HNum
 rw[←Hn.out] at HNum
 obtain ⟨c_p0,c_p1,c_p2,c_p3,c_p4,z_p⟩:=cells5 HX_p.out
 obtain ⟨c_r0,c_r1,c_r2,c_r3,c_r4,c_r5,z_r⟩:=cells6 HX_r.out
 go_wp2_with fail
 refine (HNum.out _ (HC.out.next HB.out)).mono ?_
 rintro e' w6 ⟨m,vs,k6,x6,p6,rfl,hv,hvs,ha,hb⟩
 unfold vInts intV at hvs
 subst hvs
 simp only[List.cons_append,List.nil_append]
 have HV:Hid (R.Val (.mk 6 co nm m 0 [])):=Lh (by rw [HR2.out,←Sx.go_bind];exact hv.map _)
 have HA:Hid (PAt T R.void k6 x6 p6):=Lh (by rw [HR2.out,←Sx.go_bind,Sx.void_map];exact ha)
 clear hv ha HNum HR2
 clear c_p0 c_p1 c_p2 c_p3 c_p4 z_p c_r0 c_r1 c_r2 c_r3 c_r4 c_r5 z_r
 have hgz:=hb.size
 replace HB:=bmb HB hb
 replace HX_p:=bmv HX_p hb
 replace HX_a:=bmv HX_a hb
 replace HX_q:=bmv HX_q hb
 replace HX_r:=bmv HX_r hb
 clear hb
 obtain ⟨c_p0,c_p1,c_p2,c_p3,c_p4,z_p⟩:=cells5 HX_p.out
 obtain ⟨f_p0,f_p1,f_p2,f_p3,f_p4⟩:=frees5 HX_p.out
 obtain ⟨c_r0,c_r1,c_r2,c_r3,c_r4,c_r5,z_r⟩:=cells6 HX_r.out
 obtain ⟨f_r0,f_r1,f_r2,f_r3,f_r4,f_r5⟩:=frees6 HX_r.out
 obtain ⟨V6,hV6⟩:∃ V,V=w6.setCell ⟨w1.heap.size,3,none⟩ (.int .i64 m):=⟨_,rfl⟩
 have hsz_V6:=bss hV6
 replace HB:=bsb hV6 HB (by omega)
 replace HX_p:=bst hV6 HX_p (by omega)
 replace HX_a:=bst hV6 HX_a (by omega)
 replace HX_q:=bst hV6 HX_q (by omega)
 replace HX_r:=bsc hV6 HX_r (cs':=#[.int .i64 6,.int .i64 co,.string (Lx.bs nm),.int .i64 m,.int .i64 0,.slice none 0 0]) (by simp)
 obtain ⟨V7,hV7,hxn,hfar,hbn⟩:=pstoreB HX_p.out (.slice A n c) (.int .i64 k6) (.int .i64 last) (.int .i64 x6) (.int .i64 p6)
 replace HB:=Lh (hbn w.heap.size w HB.out (by omega))
 replace HX_a:=bfr hfar.1 HX_a (by omega)
 replace HX_q:=bfr hfar.1 HX_q (by omega)
 replace HX_r:=bfr hfar.1 HX_r (by omega)
 replace HX_p:=Lh hxn
 have hsz_V7:=hfar.2
 clear hxn hfar hbn
 rw[hV6] at hV7
 go_upto_region 22 with fail
 rw[←hV7]
 clear hV6 hV7
 clear c_p0 c_p1 c_p2 c_p3 c_p4 z_p f_p0 f_p1 f_p2 f_p3 f_p4 c_r0 c_r1 c_r2 c_r3 c_r4 c_r5 z_r f_r0 f_r1 f_r2 f_r3 f_r4 f_r5
 obtain ⟨c_p0,c_p1,c_p2,c_p3,c_p4,z_p⟩:=cells5 HX_p.out
 obtain ⟨c_r0,c_r1,c_r2,c_r3,c_r4,c_r5,z_r⟩:=cells6 HX_r.out
 obtain ⟨c_a0,c_a1,c_a2,c_a3,c_a4,c_a5,z_a⟩:=cells6 HX_a.out
 obtain ⟨f_a0,f_a1,f_a2,f_a3,f_a4,f_a5⟩:=frees6 HX_a.out
 obtain ⟨c_q0,c_q1,c_q2,c_q3,c_q4,z_q⟩:=cells5 HX_q.out
 obtain ⟨f_q0,f_q1,f_q2,f_q3,f_q4⟩:=frees5 HX_q.out
 obtain ⟨W8,hW8,hxn,hfar,hbn⟩:=pstoreR HX_a.out (.int .i64 6) (.int .i64 co) (.string (Lx.bs nm)) (.int .i64 m) (.int .i64 0) (.slice none 0 0)
 replace HB:=Lh (hbn w.heap.size w HB.out (by omega))
 replace HX_p:=bfr hfar.1 HX_p (by omega)
 replace HX_q:=bfr hfar.1 HX_q (by omega)
 replace HX_r:=bfr hfar.1 HX_r (by omega)
 replace HX_a:=Lh hxn
 have hsz_W8:=hfar.2
 clear hxn hfar hbn
 obtain ⟨W9,hW9,hxn,hfar,hbn⟩:=pstoreB HX_q.out (.slice A n c) (.int .i64 k6) (.int .i64 last) (.int .i64 x6) (.int .i64 p6)
 replace HB:=Lh (hbn w.heap.size w HB.out (by omega))
 replace HX_p:=bfr hfar.1 HX_p (by omega)
 replace HX_a:=bfr hfar.1 HX_a (by omega)
 replace HX_r:=bfr hfar.1 HX_r (by omega)
 replace HX_q:=Lh hxn
 have hsz_W9:=hfar.2
 clear hxn hfar hbn
 rw[hW8] at hW9
 go_region
 rw[←hW9]
 clear hW9 hW8
 clear c_p0 c_p1 c_p2 c_p3 c_p4 z_p c_r0 c_r1 c_r2 c_r3 c_r4 c_r5 z_r c_a0 c_a1 c_a2 c_a3 c_a4 c_a5 z_a f_a0 f_a1 f_a2 f_a3 f_a4 f_a5 c_q0 c_q1 c_q2 c_q3 c_q4 z_q f_q0 f_q1 f_q2 f_q3 f_q4
 obtain ⟨c_a0,c_a1,c_a2,c_a3,c_a4,c_a5,z_a⟩:=cells6 HX_a.out
 obtain ⟨c_q0,c_q1,c_q2,c_q3,c_q4,z_q⟩:=cells5 HX_q.out
 go_wp2_with fail
 exact bodyPost_ret (v:=.tuple #[.agg #[.int .i64 6,.int .i64 co,.string (Lx.bs nm),.int .i64 m,.int .i64 0,.slice none 0 0],pv A n c k6 last x6 p6]) (by simp [results,Tryz.results46,go_sem,pv,c_a0,c_a1,c_a2,c_a3,c_a4,c_a5,c_q0,c_q1,c_q2,c_q3,c_q4]) rfl ⟨.mk 6 co nm m 0 [],[.agg #[.int .i64 6,.int .i64 co,.string (Lx.bs nm),.int .i64 m,.int .i64 0,.slice none 0 0]],_,_,_,rfl,HV.out,vRule_leaf _ _ 6 co nm m 0 HL.out,HA.out,HB.out.drew⟩
end Go.Proofs.YtjonaidancomgaaGreatDoor
