/- Parts of the proof, joined into one text: RpParE, RpParF. -/
import Derived.Test.YtjonaidancomgaaGreatDoorPRpParC
import Derived.Deep.CutRange

namespace Go.Proofs.YtjonaidancomgaaGreatDoor
open Go.RowKit

namespace Sx
open Lx (Tok)
def bigR (n:Int) (s:R Unit):Bool:=match s with | .ok _ (t::_)=>t.kind == 2 && decide (12*t.n < n) | _=>false
theorem ratio_big {n last:Int} {s:R Unit} (h:bigR n s=true):go s (number last (max 1 ((n+11) / 12)) 1000)=go s fun l=>fail last l 100:=by
 cases s with
 | bad p e=>cases h
 | ok u l=>
  cases l with
  | nil=>cases h
  | cons t r=>
   simp only[bigR,Bool.and_eq_true,beq_iff_eq,decide_eq_true_eq] at h
   show number last _ _ (t::r)=_
   unfold number
   simp only
   rw[if_neg (by omega)]
   rfl
theorem ratio_small {n last:Int} {s:R Unit} (h:bigR n s=false):go s (number last (max 1 ((n+11) / 12)) 1000)=go s (number last 1 1000):=by
 cases s with
 | bad p e=>rfl
 | ok u l=>
  cases l with
  | nil=>rfl
  | cons t r=>
   simp only[bigR,Bool.and_eq_false_iff,beq_eq_false_iff_ne,decide_eq_false_iff_not] at h
   show number last _ _ (t::r)=number last _ _ (t::r)
   unfold number
   simp only
   by_cases hk:t.kind=2∧1≤t.n∧t.n≤1000
   ·rw[if_pos hk,if_pos (by omega)]
   ·rw[if_neg hk,if_neg (by omega)]
theorem number_range {lo hi last x:Int} {s:R Unit} {l:List Tok} (h:go s (number last lo hi) = .ok x l):lo≤x∧x≤hi:=by
 cases s with
 | bad p e=>cases h
 | ok u m=>
  have h':number last lo hi m = .ok x l:=h
  unfold number at h'
  split at h'
  ·split at h'
   ·rename_i hc
    injection h' with h1 _
    omega
   ·cases h'
  ·cases h'
theorem go_of_ok {α:Type} {s:R Unit} {f:List Tok→R α} {x:α} {l:List Tok} (h:go s f = .ok x l):∃ m,s = .ok () m∧f m = .ok x l:=by
 cases s with
 | bad p e=>cases h
 | ok u m=>exact ⟨m,rfl,h⟩
theorem void_ok {α:Type} {r:R α} {l:List Tok} (h:r.void = .ok () l):∃ x,r = .ok x l:=by
 cases r with
 | bad p e=>cases h
 | ok x m=>injection h with _ h;exact ⟨x,by rw [h]⟩
theorem go_unit {β:Type} (s:R Unit) (f:List Tok→R Unit) (g:List Tok→R β):go s (fun l=>(f l).bind fun _ l=>g l)=go (go s f) g:=by
 cases s with
 | bad p e=>rfl
 | ok u l=>show (f l).bind _=go (f l) g;cases f l <;> rfl
end Sx
def vRatB (_:World) (a:Sx.Ratio) (vs:List Value):Prop:=vs = [.agg #[intV a.num,intV a.den]]
theorem pbox3 (w:World) (c0 c1 c2 c3 c4:Value):∃ W1 W2 W3:World,W1=w.alloc (.cells #[c0,c1,c2,c3,c4] 64)∧W2=W1.alloc (.cells #[.int .i64 0,.int .i64 0] 75)∧W3=W2.alloc (.cells #[.slice none 0 0,.int .i64 0,.int .i64 0,.int .i64 0,.int .i64 0] 64)∧
  Blk W3 w.heap.size 64 #[c0,c1,c2,c3,c4]∧Blk W3 (w.heap.size+1) 75 #[.int .i64 0,.int .i64 0]∧Blk W3 (w.heap.size+1+1) 64 #[.slice none 0 0,.int .i64 0,.int .i64 0,.int .i64 0,.int .i64 0]∧Below w.heap.size w W3∧W3.heap.size=w.heap.size+3:=by
 refine ⟨_,_,_,rfl,rfl,rfl,(((Blk.new w _ _).alloc _).alloc _),?_,?_,?_,by simp⟩
 ·have:=(Blk.new (w.alloc (.cells #[c0,c1,c2,c3,c4] 64)) 75 #[.int .i64 0,.int .i64 0]).alloc (.cells #[.slice none 0 0,.int .i64 0,.int .i64 0,.int .i64 0,.int .i64 0] 64)
  simpa using this
 ·have:=Blk.new ((w.alloc (.cells #[c0,c1,c2,c3,c4] 64)).alloc (.cells #[.int .i64 0,.int .i64 0] 75)) 64 #[.slice none 0 0,.int .i64 0,.int .i64 0,.int .i64 0,.int .i64 0]
  simpa using this
 ·exact (((Below.refl _ _).alloc (Nat.le_refl _) _).alloc (by simp) _).alloc (by simp;omega) _
theorem frees2 {w:World} {b:Nat} {t:TypeId} {cs:Array Value} (h:Blk w b t cs):w.frozen? ⟨b,0,none⟩=false∧w.frozen? ⟨b,1,none⟩=false:=⟨h.free 0,h.free 1⟩
set_option maxRecDepth 20000 in
set_option maxHeartbeats 2000000 in
theorem pRatio (T:List Lx.Tok) (A:Option Addr) (c:Nat) (last:Int) (s:Sx.R Unit) (k e p:Int) (w:World) (hc:PCtx T A w) (hp:PAt T s k e p) :
  Calls Tryz.prog 98 #[pv A T.length c k last e p] w (PRead T A c last vRatB (Sx.go s (Sx.ratio last)) w):=by
 have HC:=Lh hc
 have H1:=Lh (fun w' h=>pNumber T A c last 0 12000 s k e p w' h hp)
 have hlen:=hc.toks.len
 obtain ⟨R,hR⟩:∃ R,R=Sx.go s (Sx.ratio last):=⟨_,rfl⟩
 obtain ⟨n,hn⟩:∃ n,n=T.length:=⟨_,rfl⟩
 rw[←hR]
 unfold PRead
 have Hn:=Lh hn
 unfold PRead pv at H1
 unfold pv
 rw[←hn] at H1 hlen ⊢
 obtain ⟨W1,W2,W3,hW1,hW2,hW3,p1,p2,p3,hb,hsz⟩:=pbox3 w (.slice A n c) (.int .i64 k) (.int .i64 last) (.int .i64 e) (.int .i64 p)
 have HB:=Lh hb;have HX_p:=Lh p1;have HX_a:=Lh p2;have HX_q:=Lh p3
 have HR0:=Lh hR
 clear hc hp hn hb p1 p2 p3 hR
 obtain ⟨c_p0,c_p1,c_p2,c_p3,c_p4,z_p⟩:=cells5 HX_p.out
 go_enter Tryz.func98,Tryz.ntmps98
 go_upto_region 1 with fail
 rw[←hW1,←hW2,←hW3]
 clear hW1 hW2 hW3
 go_wp2_with fail
 refine (H1.out _ (HC.out.next HB.out)).mono ?_
 rintro e' w1 ⟨num,vs,k1,x1,p1,rfl,hv,hvs,ha,hb⟩
 unfold vInts intV at hvs
 subst hvs
 simp only[List.cons_append,List.nil_append]
 obtain ⟨s1,hs1⟩:∃ s1,s1=(Sx.go s (Sx.number last 0 12000)).void:=⟨_,rfl⟩
 have HR1:Hid (R=Sx.go s1 fun l=>(Sx.sign last 47 l).bind fun _ l=>(Sx.number last (max 1 ((num+11) / 12)) 1000 l).bind fun d l=>.ok (Sx.lowest num d) l):=Lh (by rw [HR0.out,hs1];exact hv.step _)
 have HN1:Hid (∀ l,s1 = .ok () l→0≤num∧num≤12000):=Lh (fun l hl=>by
  obtain ⟨x,hx⟩:=Sx.void_ok (hs1.symm.trans hl)
  have:=hv x l hx
  rw[←this]
  exact Sx.number_range hx)
 rw[←hs1] at ha
 have H2:=Lh (fun w' h=>pSg T A c last 47 s1 k1 x1 p1 w' h ha)
 unfold PPost pv at H2
 rw[←Hn.out] at H2
 clear hv ha hs1 H1 HR0
 clear c_p0 c_p1 c_p2 c_p3 c_p4 z_p
 have hgz:=hb.size
 replace HB:=bmb HB hb
 replace HX_p:=bmv HX_p hb
 replace HX_a:=bmv HX_a hb
 replace HX_q:=bmv HX_q hb
 clear hb
 obtain ⟨c_p0,c_p1,c_p2,c_p3,c_p4,z_p⟩:=cells5 HX_p.out
 obtain ⟨f_p0,f_p1,f_p2,f_p3,f_p4⟩:=frees5 HX_p.out
 obtain ⟨V1,hV1,hxn,hfar,hbn⟩:=pstoreB HX_p.out (.slice A n c) (.int .i64 k1) (.int .i64 last) (.int .i64 x1) (.int .i64 p1)
 replace HB:=Lh (hbn w.heap.size w HB.out (by omega))
 replace HX_a:=bfr hfar.1 HX_a (by omega)
 replace HX_q:=bfr hfar.1 HX_q (by omega)
 replace HX_p:=Lh hxn
 have hsz_V1:=hfar.2
 clear hxn hfar hbn
 go_upto_region 2 with fail
 rw[←hV1]
 clear hV1
 clear c_p0 c_p1 c_p2 c_p3 c_p4 z_p f_p0 f_p1 f_p2 f_p3 f_p4
 obtain ⟨c_p0,c_p1,c_p2,c_p3,c_p4,z_p⟩:=cells5 HX_p.out
 go_wp2_with fail
 refine (H2.out _ (HC.out.next HB.out)).mono ?_
 rintro e' w2 ⟨k2,x2,p2,rfl,ha,hb⟩
 obtain ⟨s2,hs2⟩:∃ s2,s2=Sx.go s1 (Sx.sign last 47):=⟨_,rfl⟩
 have HR2:Hid (R=(Sx.go s2 (Sx.number last (max 1 ((num+11) / 12)) 1000)).bind fun d l=>.ok (Sx.lowest num d) l):=Lh (by rw [HR1.out,Sx.go_unit,←hs2,Sx.go_bind])
 have HN2:Hid (∀ l,s2 = .ok () l→0≤num∧num≤12000):=Lh (fun l hl=>by
  obtain ⟨m,hm,_⟩:=Sx.go_of_ok (hs2.symm.trans hl)
  exact HN1.out m hm)
 rw[←hs2] at ha
 have HP2:=Lh ha
 clear ha hs2 H2 HR1 HN1
 clear c_p0 c_p1 c_p2 c_p3 c_p4 z_p
 have hgz:=hb.size
 replace HB:=bmb HB hb
 replace HX_p:=bmv HX_p hb
 replace HX_a:=bmv HX_a hb
 replace HX_q:=bmv HX_q hb
 clear hb
 obtain ⟨c_p0,c_p1,c_p2,c_p3,c_p4,z_p⟩:=cells5 HX_p.out
 obtain ⟨f_p0,f_p1,f_p2,f_p3,f_p4⟩:=frees5 HX_p.out
 obtain ⟨V2,hV2,hxn,hfar,hbn⟩:=pstoreB HX_p.out (.slice A n c) (.int .i64 k2) (.int .i64 last) (.int .i64 x2) (.int .i64 p2)
 replace HB:=Lh (hbn w.heap.size w HB.out (by omega))
 replace HX_a:=bfr hfar.1 HX_a (by omega)
 replace HX_q:=bfr hfar.1 HX_q (by omega)
 replace HX_p:=Lh hxn
 have hsz_V2:=hfar.2
 clear hxn hfar hbn
 go_upto_region 3 with fail
 rw[←hV2]
 clear hV2
 clear c_p0 c_p1 c_p2 c_p3 c_p4 z_p f_p0 f_p1 f_p2 f_p3 f_p4
 go_cut [48] from 16 to 48 (fun v wx=>v = .bool (Sx.bigR num s2)∧wx=V2)
 case first=>
  obtain ⟨c_p0,c_p1,c_p2,c_p3,c_p4,z_p⟩:=cells5 HX_p.out
  rcases HP2.out.cases with ⟨rfl,hy⟩ | ⟨rfl,rfl,rfl,hkn⟩ | ⟨j,tk,rfl,rfl,rfl,rfl,hj,ht⟩
  ·have hy2:(x2 == 0)=false:=by simpa using hy
   go_wp2_with fail
   go_meet
   exact ⟨rfl,rfl⟩
  ·rw[←Hn.out] at hkn
   subst hkn
   have hz:¬ (n:Int) < n:=by omega
   go_wp2_with fail
   go_meet
   exact ⟨rfl,rfl⟩
  ·obtain ⟨b,o,rfl,hb0,q0,q1,q2,q3⟩:=(HC.out.next HB.out).tok ht
   have hj2:j < n:=by have:=Hn.out;omega
   have hsm:=HC.out.small tk (List.mem_of_getElem? ht)
   have hbig:Sx.bigR num (.ok () (tk::T.drop (j+1)))=(tk.kind == 2 && decide (12*tk.n < num)):=rfl
   have HBig:=Lh hbig
   clear hbig q1 q3
   cases hk:tk.kind == 2 with
   | false=>
    go_wp2_with fail
    go_meet
    exact ⟨by rw [HBig.out,hk];rfl,rfl⟩
   | true=>
    have hn1:tk.n≤1099511627776:=hsm.2
    have hn0:0≤tk.n:=hsm.1
    go_wp2_with fail
    go_meet
    exact ⟨by rw [HBig.out,hk];simp,rfl⟩
 case rest=>
  obtain ⟨rfl,rfl⟩:=hcut
  cases hbg:Sx.bigR num s2 with
  | true=>
   have HF:=Lh (fun w' h=>pFail T A c last 100 (by decide) s2 k2 x2 p2 w' h HP2.out)
   unfold PPost pv at HF
   rw[←Hn.out] at HF
   have HV:Hid (R.Val ⟨0,0⟩):=Lh (by
    rw[HR2.out,Sx.ratio_big hbg]
    cases s2 with
    | bad p e=>exact .of_bad _ _ _
    | ok u l=>exact .of_bad _ _ _)
   have HVd:Hid (R.void=Sx.go s2 fun l=>(Sx.fail last l 100:Sx.R Unit)):=Lh (by
    rw[HR2.out,Sx.ratio_big hbg]
    cases s2 with
    | bad p e=>rfl
    | ok u l=>rfl)
   clear hbg
   obtain ⟨c_p0,c_p1,c_p2,c_p3,c_p4,z_p⟩:=cells5 HX_p.out
   go_wp2_with fail
   refine (HF.out _ (HC.out.next HB.out)).mono ?_
   rintro e' w4 ⟨k4,x4,p4,rfl,ha,hb⟩
   have HA:Hid (PAt T R.void k4 x4 p4):=Lh (by rw [HVd.out];exact ha)
   clear ha HF HVd
   clear c_p0 c_p1 c_p2 c_p3 c_p4 z_p
   have hgz:=hb.size
   replace HB:=bmb HB hb
   replace HX_p:=bmv HX_p hb
   replace HX_a:=bmv HX_a hb
   replace HX_q:=bmv HX_q hb
   clear hb
   obtain ⟨c_a0,c_a1,z_a⟩:=cells2 HX_a.out
   obtain ⟨f_a0,f_a1⟩:=frees2 HX_a.out
   obtain ⟨c_q0,c_q1,c_q2,c_q3,c_q4,z_q⟩:=cells5 HX_q.out
   obtain ⟨f_q0,f_q1,f_q2,f_q3,f_q4⟩:=frees5 HX_q.out
   obtain ⟨W8,hW8⟩:∃ W8,W8=(w4.setCell ⟨w.heap.size+1,0,none⟩ (.int .i64 0)).setCell ⟨w.heap.size+1,1,none⟩ (.int .i64 0):=⟨_,rfl⟩
   have hxa:Blk W8 (w.heap.size+1) 75 #[.int .i64 0,.int .i64 0]:=by
    rw[hW8]
    have:=(HX_a.out.set 0 (.int .i64 0)).set 1 (.int .i64 0)
    simpa using this
   have hxq:Blk W8 (w.heap.size+1+1) 64 #[.slice none 0 0,.int .i64 0,.int .i64 0,.int .i64 0,.int .i64 0]:=by
    rw[hW8]
    exact (HX_q.out.far (p:=⟨w.heap.size+1,0,none⟩) (by simp) _).far (p:=⟨w.heap.size+1,1,none⟩) (by simp) _
   have hbb:Below w.heap.size w W8:=by
    rw[hW8]
    exact (HB.out.setCell (p:=⟨w.heap.size+1,0,none⟩) (Nat.le_succ _) _).setCell (p:=⟨w.heap.size+1,1,none⟩) (Nat.le_succ _) _
   clear HB HX_a HX_q HX_p
   have HB:=Lh hbb;have HX_a:=Lh hxa;have HX_q:=Lh hxq
   clear hbb hxa hxq
   obtain ⟨W9,hW9,hxn,hfar,hbn⟩:=pstoreB HX_q.out (.slice A n c) (.int .i64 k4) (.int .i64 last) (.int .i64 x4) (.int .i64 p4)
   replace HB:=Lh (hbn w.heap.size w HB.out (by omega))
   replace HX_a:=bfr hfar.1 HX_a (by omega)
   replace HX_q:=Lh hxn
   have hsz_W9:=hfar.2
   clear hxn hfar hbn
   rw[hW8] at hW9
   go_wp2_with fail
   rw[←hW9]
   clear hW9 hW8
   clear c_a0 c_a1 z_a f_a0 f_a1 c_q0 c_q1 c_q2 c_q3 c_q4 z_q f_q0 f_q1 f_q2 f_q3 f_q4
   obtain ⟨c_a0,c_a1,z_a⟩:=cells2 HX_a.out
   obtain ⟨c_q0,c_q1,c_q2,c_q3,c_q4,z_q⟩:=cells5 HX_q.out
   exact bodyPost_ret (v:=.tuple #[.agg #[.int .i64 0,.int .i64 0],pv A n c k4 last x4 p4]) (by simp [results,Tryz.results98,go_sem,pv,c_a0,c_a1,c_q0,c_q1,c_q2,c_q3,c_q4]) rfl ⟨⟨0,0⟩,[.agg #[.int .i64 0,.int .i64 0]],_,_,_,rfl,HV.out,rfl,HA.out,HB.out⟩
  | false=>
   have HR3:Hid (R=(Sx.go s2 (Sx.number last 1 1000)).bind fun d l=>.ok (Sx.lowest num d) l):=Lh (by rw [HR2.out,Sx.ratio_small hbg])
   have H3:=Lh (fun w' h=>pNumber T A c last 1 1000 s2 k2 x2 p2 w' h HP2.out)
   unfold PRead pv at H3
   rw[←Hn.out] at H3
   clear hbg HR2
   obtain ⟨c_p0,c_p1,c_p2,c_p3,c_p4,z_p⟩:=cells5 HX_p.out
   go_wp2_with fail
   refine (H3.out _ (HC.out.next HB.out)).mono ?_
   rintro e' w4 ⟨den,vs,k4,x4,p4,rfl,hv,hvs,ha,hb⟩
   unfold vInts intV at hvs
   subst hvs
   simp only[List.cons_append,List.nil_append]
   have HA:Hid (PAt T R.void k4 x4 p4):=Lh (by rw [HR3.out,Sx.void_map];exact ha)
   have HAs:=Lh ha;have HVn:=Lh hv
   clear hv ha H3
   clear c_p0 c_p1 c_p2 c_p3 c_p4 z_p
   have hgz:=hb.size
   replace HB:=bmb HB hb
   replace HX_p:=bmv HX_p hb
   replace HX_a:=bmv HX_a hb
   replace HX_q:=bmv HX_q hb
   clear hb
   obtain ⟨W5,hW5⟩:∃ V,V=w4.alloc (.cells #[.slice A n c,.int .i64 k4,.int .i64 last,.int .i64 x4,.int .i64 p4] 64):=⟨_,rfl⟩
   obtain ⟨HX_r,hb⟩:=bnw hW5
   have hgz:=hb.size
   replace HB:=bmb HB hb
   replace HX_p:=bmv HX_p hb
   replace HX_a:=bmv HX_a hb
   replace HX_q:=bmv HX_q hb
   clear hb
   go_upto_region 6 with fail
   rw[←hW5]
   clear hW5
   obtain ⟨c_r0,c_r1,c_r2,c_r3,c_r4,z_r⟩:=cells5 HX_r.out
   cases hs3:(Sx.go s2 (Sx.number last 1 1000)) with
   | bad pp ee=>
    have hx4:(x4 != 0)=true:=by
     have:=HAs.out
     rw[hs3] at this
     obtain ⟨h1,_,h3⟩:=this
     rw[h1];simpa using h3
    have HV:Hid (R.Val ⟨0,0⟩):=Lh (by rw [HR3.out,hs3];exact .of_bad _ _ _)
    clear hs3
    obtain ⟨c_a0,c_a1,z_a⟩:=cells2 HX_a.out
    obtain ⟨f_a0,f_a1⟩:=frees2 HX_a.out
    obtain ⟨c_q0,c_q1,c_q2,c_q3,c_q4,z_q⟩:=cells5 HX_q.out
    obtain ⟨f_q0,f_q1,f_q2,f_q3,f_q4⟩:=frees5 HX_q.out
    go_wp2_with fail
    obtain ⟨W8,hW8⟩:∃ W8,W8=(W5.setCell ⟨w.heap.size+1,0,none⟩ (.int .i64 0)).setCell ⟨w.heap.size+1,1,none⟩ (.int .i64 0):=⟨_,rfl⟩
    have hxa:Blk W8 (w.heap.size+1) 75 #[.int .i64 0,.int .i64 0]:=by
     rw[hW8]
     have:=(HX_a.out.set 0 (.int .i64 0)).set 1 (.int .i64 0)
     simpa using this
    have hxq:Blk W8 (w.heap.size+1+1) 64 #[.slice none 0 0,.int .i64 0,.int .i64 0,.int .i64 0,.int .i64 0]:=by
     rw[hW8]
     exact (HX_q.out.far (p:=⟨w.heap.size+1,0,none⟩) (by simp) _).far (p:=⟨w.heap.size+1,1,none⟩) (by simp) _
    have hbb:Below w.heap.size w W8:=by
     rw[hW8]
     exact (HB.out.setCell (p:=⟨w.heap.size+1,0,none⟩) (Nat.le_succ _) _).setCell (p:=⟨w.heap.size+1,1,none⟩) (Nat.le_succ _) _
    clear HB HX_a HX_q HX_p HX_r
    have HB:=Lh hbb;have HX_a:=Lh hxa;have HX_q:=Lh hxq
    clear hbb hxa hxq
    obtain ⟨W9,hW9,hxn,hfar,hbn⟩:=pstoreB HX_q.out (.slice A n c) (.int .i64 k4) (.int .i64 last) (.int .i64 x4) (.int .i64 p4)
    replace HB:=Lh (hbn w.heap.size w HB.out (by omega))
    replace HX_a:=bfr hfar.1 HX_a (by omega)
    replace HX_q:=Lh hxn
    have hsz_W9:=hfar.2
    clear hxn hfar hbn
    rw[hW8] at hW9
    go_region
    rw[←hW9]
    clear hW9 hW8
    clear c_r0 c_r1 c_r2 c_r3 c_r4 z_r c_a0 c_a1 z_a f_a0 f_a1 c_q0 c_q1 c_q2 c_q3 c_q4 z_q f_q0 f_q1 f_q2 f_q3 f_q4
    obtain ⟨c_a0,c_a1,z_a⟩:=cells2 HX_a.out
    obtain ⟨c_q0,c_q1,c_q2,c_q3,c_q4,z_q⟩:=cells5 HX_q.out
    go_wp2_with fail
    exact bodyPost_ret (v:=.tuple #[.agg #[.int .i64 0,.int .i64 0],pv A n c k4 last x4 p4]) (by simp [results,Tryz.results98,go_sem,pv,c_a0,c_a1,c_q0,c_q1,c_q2,c_q3,c_q4]) rfl ⟨⟨0,0⟩,[.agg #[.int .i64 0,.int .i64 0]],_,_,_,rfl,HV.out,rfl,HA.out,HB.out.drew⟩
   | ok dd ll=>
    have hx4:x4=0:=by
     have:=HAs.out
     rw[hs3] at this
     exact this.1
    subst hx4
    have hdd:1≤den∧den≤1000:=by
     have h1:=HVn.out dd ll hs3
     have h2:=Sx.number_range hs3
     rw[←h1];exact h2
    have hnum:0≤num∧num≤12000:=by
     obtain ⟨m,hm,_⟩:=Sx.go_of_ok hs3
     exact HN2.out m hm
    obtain ⟨dn,hdn⟩:=Int.eq_ofNat_of_zero_le (show 0≤den by omega)
    obtain ⟨nn,hnn⟩:=Int.eq_ofNat_of_zero_le hnum.1
    have HV:Hid (R.Val (Sx.lowest num den)):=Lh (by rw [HR3.out];exact HVn.out.map _)
    subst hdn;subst hnn
    have H5:=Lh (fun W=>rNew5 nn dn (by omega) (by omega) (by omega) W)
    obtain ⟨ra,hra⟩:∃ ra,ra=(Sx.lowest nn dn).num:=⟨_,rfl⟩
    obtain ⟨rb,hrb⟩:∃ rb,rb=(Sx.lowest nn dn).den:=⟨_,rfl⟩
    have hrr:Sx.lowest nn dn=⟨ra,rb⟩:=by rw [hra,hrb]
    rw[hrr] at HV
    unfold New5Post at H5
    rw[hrr] at H5
    clear hs3 hrr hra hrb
    go_wp2_with fail
    refine (H5.out _).mono ?_
    rintro e' w6 ⟨rfl,hb⟩
    clear c_r0 c_r1 c_r2 c_r3 c_r4 z_r
    have hgz:=hb.size
    replace HB:=bmb HB hb
    replace HX_p:=bmv HX_p hb
    replace HX_a:=bmv HX_a hb
    replace HX_q:=bmv HX_q hb
    replace HX_r:=bmv HX_r hb
    clear hb
    obtain ⟨W7,hW7⟩:∃ V,V=w6.alloc (.cells #[.int .i64 ra,.int .i64 rb] 75):=⟨_,rfl⟩
    obtain ⟨HX_t,hb⟩:=bnw hW7
    have hgz:=hb.size
    replace HB:=bmb HB hb
    replace HX_p:=bmv HX_p hb
    replace HX_a:=bmv HX_a hb
    replace HX_q:=bmv HX_q hb
    replace HX_r:=bmv HX_r hb
    clear hb
    go_upto_region 9 with fail
    rw[←hW7]
    clear hW7
    obtain ⟨c_r0,c_r1,c_r2,c_r3,c_r4,z_r⟩:=cells5 HX_r.out
    obtain ⟨c_t0,c_t1,z_t⟩:=cells2 HX_t.out
    obtain ⟨c_a0,c_a1,z_a⟩:=cells2 HX_a.out
    obtain ⟨f_a0,f_a1⟩:=frees2 HX_a.out
    obtain ⟨c_q0,c_q1,c_q2,c_q3,c_q4,z_q⟩:=cells5 HX_q.out
    obtain ⟨f_q0,f_q1,f_q2,f_q3,f_q4⟩:=frees5 HX_q.out
    obtain ⟨W8,hW8⟩:∃ W8,W8=(W7.setCell ⟨w.heap.size+1,0,none⟩ (.int .i64 ra)).setCell ⟨w.heap.size+1,1,none⟩ (.int .i64 rb):=⟨_,rfl⟩
    have hxa:Blk W8 (w.heap.size+1) 75 #[.int .i64 ra,.int .i64 rb]:=by
     rw[hW8]
     have:=(HX_a.out.set 0 (.int .i64 ra)).set 1 (.int .i64 rb)
     simpa using this
    have hxq:Blk W8 (w.heap.size+1+1) 64 #[.slice none 0 0,.int .i64 0,.int .i64 0,.int .i64 0,.int .i64 0]:=by
     rw[hW8]
     exact (HX_q.out.far (p:=⟨w.heap.size+1,0,none⟩) (by simp) _).far (p:=⟨w.heap.size+1,1,none⟩) (by simp) _
    have hbb:Below w.heap.size w W8:=by
     rw[hW8]
     exact (HB.out.setCell (p:=⟨w.heap.size+1,0,none⟩) (Nat.le_succ _) _).setCell (p:=⟨w.heap.size+1,1,none⟩) (Nat.le_succ _) _
    clear HB HX_a HX_q HX_p HX_r HX_t
    have HB:=Lh hbb;have HX_a:=Lh hxa;have HX_q:=Lh hxq
    clear hbb hxa hxq
    obtain ⟨W9,hW9,hxn,hfar,hbn⟩:=pstoreB HX_q.out (.slice A n c) (.int .i64 k4) (.int .i64 last) (.int .i64 0) (.int .i64 p4)
    replace HB:=Lh (hbn w.heap.size w HB.out (by omega))
    replace HX_a:=bfr hfar.1 HX_a (by omega)
    replace HX_q:=Lh hxn
    have hsz_W9:=hfar.2
    clear hxn hfar hbn
    rw[hW8] at hW9
    go_region
    rw[←hW9]
    clear hW9 hW8
    clear c_r0 c_r1 c_r2 c_r3 c_r4 z_r c_t0 c_t1 z_t c_a0 c_a1 z_a f_a0 f_a1 c_q0 c_q1 c_q2 c_q3 c_q4 z_q f_q0 f_q1 f_q2 f_q3 f_q4
    obtain ⟨c_a0,c_a1,z_a⟩:=cells2 HX_a.out
    obtain ⟨c_q0,c_q1,c_q2,c_q3,c_q4,z_q⟩:=cells5 HX_q.out
    go_wp2_with fail
    exact bodyPost_ret (v:=.tuple #[.agg #[.int .i64 ra,.int .i64 rb],pv A n c k4 last 0 p4]) (by simp [results,Tryz.results98,go_sem,pv,c_a0,c_a1,c_q0,c_q1,c_q2,c_q3,c_q4]) rfl ⟨⟨ra,rb⟩,[.agg #[.int .i64 ra,.int .i64 rb]],_,_,_,rfl,HV.out,rfl,HA.out,HB.out.drew⟩
end Go.Proofs.YtjonaidancomgaaGreatDoor

namespace Go.Proofs.YtjonaidancomgaaGreatDoor
open Go.RowKit

def WordsB (w:World) (b o:Nat) (ws:List (List UInt8)):Prop:=b < w.heap.size∧∀ (i:Nat) x,ws[i]?=some x→w.cell? ⟨b,o+i,none⟩=some (.string (Lx.bs x))
theorem WordsB.next {w w':World} {b o:Nat} {ws:List (List UInt8)} (h:WordsB w b o ws) (hb:Below w.heap.size w w'):WordsB w' b o ws:=
 ⟨Nat.lt_of_lt_of_le h.1 hb.size,fun i x hx=>(hb.cell (p:=⟨b,o+i,none⟩) h.1).trans (h.2 i x hx)⟩
namespace Sx
open Lx (Tok)
def NoneBefore (s:R Unit) (ws:List (List UInt8)) (i:Nat):Prop:=∀ (j:Nat) x,j < i→ws[j]?=some x→s.hits 1 x=false
theorem find_at {s:R Unit} {ws:List (List UInt8)} {i:Nat} {x:List UInt8} (hx:ws[i]?=some x) (hn:NoneBefore s ws i) (h:s.hits 1 x=true):∃ l,s = .ok () l∧find ws l=some i:=by
 cases s with
 | bad p e=>cases h
 | ok u l=>
  refine ⟨l,rfl,?_⟩
  unfold find
  obtain ⟨hi,hxe⟩:=List.getElem?_eq_some_iff.1 hx
  rw[List.findIdx?_eq_some_iff_getElem]
  refine ⟨hi,by rw [hxe];exact h,fun j hj=>?_⟩
  have:=hn j ws[j] hj (List.getElem?_eq_getElem (by omega))
  have h2:hit 1 ws[j] l=false:=this
  simp[h2]
theorem findNone {l:List Tok} {ws:List (List UInt8)} (hn:NoneBefore (.ok () l) ws ws.length):find ws l=none:=by
 unfold find
 rw[List.findIdx?_eq_none_iff]
 intro x hx
 obtain ⟨j,hj⟩:=List.mem_iff_getElem?.1 hx
 exact hn j x (List.getElem?_eq_some_iff.1 hj).1 hj
def begR (s:R Unit):Int:=match s with | .ok _ l=>(match find ruleWords l with | some i=>i+1 | none=>0) | .bad _ _=>0
theorem begR_at {s:R Unit} {i:Nat} {x:List UInt8} (hx:ruleWords[i]?=some x) (hn:NoneBefore s ruleWords i) (h:s.hits 1 x=true):begR s=i+1:=by
 obtain ⟨l,rfl,hf⟩:=find_at hx hn h
 unfold begR
 simp only[hf]
theorem begR_none {s:R Unit} (hn:NoneBefore s ruleWords 9):begR s=0:=by
 cases s with
 | bad p e=>rfl
 | ok u l=>
  have:=findNone hn
  unfold begR
  simp only[this]
end Sx
set_option maxRecDepth 20000 in
set_option maxHeartbeats 2000000 in
theorem pBegins (T:List Lx.Tok) (A:Option Addr) (c:Nat) (last:Int) (s:Sx.R Unit) (k e p:Int) (w:World) (hc:PCtx T A w) (hp:PAt T s k e p) :
  Calls Tryz.prog 113 #[pv A T.length c k last e p] w fun e w'=>e = .returned (.int .i64 (Sx.begR s))∧Below w.heap.size w w':=by
 have HC:=Lh hc
 have H1:=Lh (fun (x:ByteArray) w' h=>pW T A c last x s k e p w' h hp)
 obtain ⟨n,hn⟩:∃ n,n=T.length:=⟨_,rfl⟩
 unfold pv at H1 ⊢
 rw[←hn] at H1 ⊢
 obtain ⟨W1,hW1⟩:∃ W1,W1=w.alloc (.cells #[.slice A n c,.int .i64 k,.int .i64 last,.int .i64 e,.int .i64 p] 64):=⟨_,rfl⟩
 obtain ⟨W2,hW2⟩:∃ W2,W2=W1.alloc (.cells #[.string ⟨#[97,108,108]⟩,.string ⟨#[97,110,121]⟩,.string ⟨#[108,101,97,115,116]⟩,.string ⟨#[110,111,116]⟩,.string ⟨#[112,97,115,115]⟩,.string ⟨#[116,114,105,101,115]⟩,.string ⟨#[101,97,114,110]⟩,.string ⟨#[109,101,97,110]⟩,.string ⟨#[119,105,116,104]⟩] 9):=⟨_,rfl⟩
 have hs1:W1.heap.size=w.heap.size+1:=by rw [hW1];simp
 have hb1:Below w.heap.size w W1:=by rw [hW1];exact (Below.refl _ _).alloc (Nat.le_refl _) _
 have hb12:Below W1.heap.size W1 W2:=by rw [hW2];exact (Below.refl _ _).alloc (Nat.le_refl _) _
 have hp1:Blk W1 w.heap.size 64 #[.slice A n c,.int .i64 k,.int .i64 last,.int .i64 e,.int .i64 p]:=by rw [hW1];exact Blk.new _ _ _
 have hws:Blk W2 (w.heap.size+1) 9 #[.string ⟨#[97,108,108]⟩,.string ⟨#[97,110,121]⟩,.string ⟨#[108,101,97,115,116]⟩,.string ⟨#[110,111,116]⟩,.string ⟨#[112,97,115,115]⟩,.string ⟨#[116,114,105,101,115]⟩,.string ⟨#[101,97,114,110]⟩,.string ⟨#[109,101,97,110]⟩,.string ⟨#[119,105,116,104]⟩]:=by rw [←hs1,hW2];exact Blk.new _ _ _
 have hwa:WordsB W2 (w.heap.size+1) 0 Sx.ruleWords:=⟨hws.lt,fun i x hx=>by
  rw[Nat.zero_add,hws.cell]
  match i,hx with
  | 0,hx=>exact congrArg some (congrArg Value.string (congrArg Lx.bs (Option.some.inj hx)))
  | 1,hx=>exact congrArg some (congrArg Value.string (congrArg Lx.bs (Option.some.inj hx)))
  | 2,hx=>exact congrArg some (congrArg Value.string (congrArg Lx.bs (Option.some.inj hx)))
  | 3,hx=>exact congrArg some (congrArg Value.string (congrArg Lx.bs (Option.some.inj hx)))
  | 4,hx=>exact congrArg some (congrArg Value.string (congrArg Lx.bs (Option.some.inj hx)))
  | 5,hx=>exact congrArg some (congrArg Value.string (congrArg Lx.bs (Option.some.inj hx)))
  | 6,hx=>exact congrArg some (congrArg Value.string (congrArg Lx.bs (Option.some.inj hx)))
  | 7,hx=>exact congrArg some (congrArg Value.string (congrArg Lx.bs (Option.some.inj hx)))
  | 8,hx=>exact congrArg some (congrArg Value.string (congrArg Lx.bs (Option.some.inj hx)))
  | i+9,hx=>simp [Sx.ruleWords] at hx⟩
 have hp2:=hp1.below hb12 hp1.lt
 have HB:=Lh (hb1.trans (hb12.mono (by omega)));have HX:=Lh hp2;have HW:=Lh hwa
 clear hc hp hn hb1 hb12 hp1 hws hwa hp2
 go_enter Tryz.func113,Tryz.ntmps113
 go_upto_region 2 with fail
 rw[←hW1,←hW2]
 clear hW1 hW2
 go_wp2_with fail
 go_loopg [4] 9 (fun gk v4 wr=>∃ i:Nat,v4 = .int .i64 i∧i+gk=9∧Hid (Sx.NoneBefore s Sx.ruleWords i)∧Hid (Below W2.heap.size W2 wr))
 case atStart=>exact ⟨0,rfl,rfl,Lh (fun j x hj=>absurd hj (by omega)),Lh (Below.refl _ _)⟩
 case round=>
  obtain ⟨i,rfl,hi,HN,HBr⟩:=hrel
  by_cases hlt:i < 9
  ·obtain ⟨x,hx⟩:∃ x,Sx.ruleWords[i]?=some x:=⟨_,List.getElem?_eq_getElem (show i < Sx.ruleWords.length from hlt)⟩
   obtain ⟨c0,c1,c2,c3,c4,cz⟩:=cells5 (HX.out.below HBr.out HX.out.lt)
   have cw:=(HW.out.next HBr.out).2 i x hx
   have cwz:=(HW.out.next HBr.out).1
   rw[Nat.zero_add] at cw
   have Hcall:=Lh (H1.out (Lx.bs x) wr.drew ((HC.out.next (HB.out.trans (HBr.out.mono HB.out.size))).next (Below.refl _ _).drew))
   rw[Lx.bs_list] at Hcall
   cases hh:s.hits 1 x with
   | true=>
    rw[hh] at Hcall
    have HR:=Lh (Sx.begR_at hx HN.out hh)
    clear hx hh
    go_wp2_with fail
    go_region_law (go_simp;go_at_call 31;refine Hcall.out.mono ?_;rintro e w5 ⟨rfl,hb5⟩;have Hb5:=Lh hb5;clear hb5)
    all_goals (try go_wp2_with fail)
    all_goals go_ret
    all_goals exact ⟨ret_int (by rw [HR.out];omega),(HB.out.trans (HBr.out.mono HB.out.size)).trans ((Below.trans (Below.refl _ _).drew Hb5.out).mono (show w.heap.size≤wr.heap.size from Nat.le_trans HB.out.size HBr.out.size))⟩
   | false=>
    rw[hh] at Hcall
    have HN2:Hid (Sx.NoneBefore s Sx.ruleWords (i+1)):=Lh (fun j y hj hy=>by
     rcases Nat.lt_or_ge j i with h | h
     ·exact HN.out j y h hy
     ·obtain rfl:j=i:=by omega
      rw[hx] at hy;injection hy with hy;rw[←hy];exact hh)
    clear hx hh
    go_wp2_with fail
    go_region_law (go_simp;go_at_call 31;refine Hcall.out.mono ?_;rintro e w5 ⟨rfl,hb5⟩;have Hb5:=Lh hb5;clear hb5)
    all_goals (try go_wp2_with fail)
    all_goals go_roundg (gk - 1)
    all_goals first
     | omega
     | exact ⟨i+1,by go_num,by omega,HN2,Lh (HBr.out.trans ((Below.trans (Below.refl _ _).drew Hb5.out).mono (show W2.heap.size≤wr.heap.size from HBr.out.size)))⟩
  ·obtain rfl:i=9:=by omega
   have HR:=Lh (Sx.begR_none HN.out)
   go_wp2_with fail
   go_ret
   exact ⟨ret_int HR.out.symm,HB.out.trans (HBr.out.mono HB.out.size)⟩
namespace Sx
open Lx (Tok)
theorem go_oneOf_at {s:R Unit} {ws:List (List UInt8)} {last:Int} {i:Nat} {x:List UInt8} (hx:ws[i]?=some x) (hn:NoneBefore s ws i) (h:s.hits 1 x=true):(go s (oneOf last ws)).Val i∧(go s (oneOf last ws)).void=go s (word last x):=by
 obtain ⟨l,rfl,hf⟩:=find_at hx hn h
 obtain ⟨l',e,h1,h2⟩:=hits_need (last:=last) _ h
 injection e with _ e
 subst e
 have h0:go (.ok () l) (oneOf last ws) = .ok (i:Int) l.tail:=by show oneOf last ws l=_;unfold oneOf;rw[hf]
 have h3:go (.ok () l) (word last x) = .ok () l.tail:=h2
 rw[h0,h3]
 exact ⟨.of_ok _ _,rfl⟩
theorem go_oneOf_none {s:R Unit} {ws:List (List UInt8)} {last:Int} (hn:NoneBefore s ws ws.length):(go s (oneOf last ws)).Val 0∧(go s (oneOf last ws)).void=go s fun l=>fail last l 100:=by
 cases s with
 | bad p e=>exact ⟨.of_bad _ _ _,rfl⟩
 | ok u l=>
  have h0:go (.ok () l) (oneOf last ws)=fail last l 100:=by show oneOf last ws l=_;unfold oneOf;rw[findNone hn]
  rw[h0]
  exact ⟨.of_bad _ _ _,rfl⟩
end Sx
def vIdx (_:World) (a:Int) (vs:List Value):Prop:=vs = [intV a]∧0≤a∧a≤100
set_option maxRecDepth 20000 in
set_option maxHeartbeats 2000000 in
theorem pChoice (T:List Lx.Tok) (A:Option Addr) (c:Nat) (last:Int) (ws:List (List UInt8)) (m b o cp:Nat) (hm:m=ws.length) (hm2:m≤100) (s:Sx.R Unit) (k e p:Int) (w:World) (hc:PCtx T A w) (hp:PAt T s k e p) (hw:WordsB w b o ws) :
  Calls Tryz.prog 100 #[pv A T.length c k last e p,.slice (some ⟨b,o,none⟩) m cp] w (PRead T A c last vIdx (Sx.go s (Sx.oneOf last ws)) w):=by
 have HC:=Lh hc
 have H1:=Lh (fun (x:ByteArray) w' h=>pW T A c last x s k e p w' h hp)
 have H2:=Lh (fun (x:ByteArray) w' h=>pWord T A c last x s k e p w' h hp)
 have H3:=Lh (fun w' h=>pFail T A c last 100 (by decide) s k e p w' h hp)
 obtain ⟨R,hR⟩:∃ R,R=Sx.go s (Sx.oneOf last ws):=⟨_,rfl⟩
 rw[←hR]
 obtain ⟨n,hn⟩:∃ n,n=T.length:=⟨_,rfl⟩
 unfold PRead
 unfold PPost at H2 H3
 unfold pv at H1 H2 H3 ⊢
 rw[←hn] at H1 H2 H3 ⊢
 obtain ⟨W1,W2,hW1,hW2,p1,p2,hb,hsz⟩:=pbox w (.slice A n c) (.int .i64 k) (.int .i64 last) (.int .i64 e) (.int .i64 p)
 have HB:=Lh hb;have HX:=Lh p1;have HQ:=Lh p2;have HW:=Lh (hw.next hb);have HR:=Lh hR;have Hm:=Lh hm
 clear hc hp hn hb p1 p2 hw hR hm
 go_enter Tryz.func100,Tryz.ntmps100
 go_upto_region 1 with fail
 rw[←hW1,←hW2]
 clear hW1 hW2
 go_wp2_with fail
 go_loopg [6] m (fun gk v6 wr=>∃ i:Nat,v6 = .int .i64 i∧i+gk=m∧Hid (Sx.NoneBefore s ws i)∧Hid (Below W2.heap.size W2 wr))
 case atStart=>exact ⟨0,rfl,by omega,Lh (fun j x hj=>absurd hj (by omega)),Lh (Below.refl _ _)⟩
 case round=>
  obtain ⟨i,rfl,hi,HN,HBr⟩:=hrel
  have hgr:=HBr.out.size
  obtain ⟨c0,c1,c2,c3,c4,cz⟩:=cells5 (HX.out.below HBr.out HX.out.lt)
  by_cases hlt:i < m
  ·obtain ⟨x,hx⟩:∃ x,ws[i]?=some x:=⟨_,List.getElem?_eq_getElem (by have:=Hm.out;omega)⟩
   have cw:=(HW.out.next HBr.out).2 i x hx
   have cwz:=(HW.out.next HBr.out).1
   have Hcall:=Lh (H1.out (Lx.bs x) wr.drew ((HC.out.next (HB.out.trans (HBr.out.mono HB.out.size))).next (Below.refl _ _).drew))
   rw[Lx.bs_list] at Hcall
   cases hh:s.hits 1 x with
   | true=>
    rw[hh] at Hcall
    have hval:=Sx.go_oneOf_at (last:=last) hx HN.out hh
    rw[←HR.out] at hval
    have HV:=Lh hval.1;have HVd:=Lh hval.2
    have Hrow:=Lh (HW.out.next HBr.out)
    have Hx:=Lh hx
    clear hx hh hval
    go_wp2_with fail
    go_region_law (go_simp;go_at_call 31;refine Hcall.out.mono ?_;rintro e w5 ⟨rfl,hb5⟩;have hb6:Below wr.heap.size wr w5:=Below.trans (Below.refl _ _).drew hb5;have Hb5:=Lh hb6;obtain ⟨d0,d1,d2,d3,d4,dz⟩:=cells5 (HX.out.below (HBr.out.trans (hb6.mono HBr.out.size)) HX.out.lt);have cw5:=(Hrow.out.next hb6).2 i x Hx.out;have cwz5:=(Hrow.out.next hb6).1;have Hg5:=Lh hb6.size;clear hb5 hb6)
    all_goals (try go_wp2_with fail)
    all_goals (
     have Hwd:=Lh (H2.out (Lx.bs x) w5.drew ((HC.out.next (HB.out.trans ((HBr.out.trans (Hb5.out.mono HBr.out.size)).mono HB.out.size))).next (Below.refl _ _).drew))
     rw[Lx.bs_list,show Sx.need last 1 x=Sx.word last x from rfl,←HVd.out] at Hwd
     have HB5:=Lh (HB.out.trans ((HBr.out.trans (Hb5.out.mono HBr.out.size)).mono HB.out.size))
     have HQ5:=Lh (HQ.out.below (HBr.out.trans (Hb5.out.mono HBr.out.size)) HQ.out.lt)
     have hg5:=Hg5.out
     clear Hcall c0 c1 c2 c3 c4 cz cw cwz)
    all_goals go_region_law (go_simp;go_at_call 94;refine Hwd.out.mono ?_;rintro e w6 ⟨k6,x6,p6,rfl,ha,hb6⟩;have hb7:Below w5.heap.size w5 w6:=Below.trans (Below.refl _ _).drew hb6;have HA:=Lh ha;have HB6:=Lh (HB5.out.trans (hb7.mono HB5.out.size));have HQ6:=Lh (HQ5.out.below hb7 HQ5.out.lt);obtain ⟨f0,f1,f2,f3,f4⟩:=frees5 HQ6.out;obtain ⟨y0,y1,y2,y3,y4,yz⟩:=cells5 HQ6.out;clear ha hb6 hb7)
    all_goals (try go_wp2_with fail)
    all_goals (
     obtain ⟨W9,hW9,hxn,hfar,hbn⟩:=pstoreB HQ6.out (.slice A n c) (.int .i64 k6) (.int .i64 last) (.int .i64 x6) (.int .i64 p6)
     rw[←hW9]
     clear hW9
     obtain ⟨t0,t1,t2,t3,t4,tz⟩:=cells5 hxn
     exact bodyPost_ret (v:=.tuple #[.int .i64 i,pv A n c k6 last x6 p6]) (by simp [results,Tryz.results100,go_sem,pv,t0,t1,t2,t3,t4]) rfl ⟨_,[.int .i64 i],_,_,_,rfl,HV.out,⟨rfl,by omega,by omega⟩,HA.out,hbn w.heap.size w HB6.out (by omega)⟩)
   | false=>
    rw[hh] at Hcall
    have HN2:Hid (Sx.NoneBefore s ws (i+1)):=Lh (fun j y hj hy=>by
     rcases Nat.lt_or_ge j i with h | h
     ·exact HN.out j y h hy
     ·obtain rfl:j=i:=by omega
      rw[hx] at hy;injection hy with hy;rw[←hy];exact hh)
    clear hx hh
    go_wp2_with fail
    go_region_law (go_simp;go_at_call 31;refine Hcall.out.mono ?_;rintro e w5 ⟨rfl,hb5⟩;have Hb5:=Lh hb5;clear hb5)
    all_goals (try go_wp2_with fail)
    all_goals go_roundg (gk - 1)
    all_goals first
     | omega
     | exact ⟨i+1,by go_num,by omega,HN2,Lh (HBr.out.trans ((Below.trans (Below.refl _ _).drew Hb5.out).mono (show W2.heap.size≤wr.heap.size from HBr.out.size)))⟩
  ·obtain rfl:i=m:=by omega
   have hval:=Sx.go_oneOf_none (last:=last) (show Sx.NoneBefore s ws ws.length by rw [←Hm.out];exact HN.out)
   rw[←HR.out] at hval
   have HV:=Lh hval.1;have HVd:=Lh hval.2
   rw[←HVd.out] at H3
   clear hval
   go_wp2_with fail
   refine (H3.out _ (HC.out.next (HB.out.trans (HBr.out.mono HB.out.size)))).mono ?_
   rintro e w6 ⟨k6,x6,p6,rfl,ha,hb6⟩
   have HA:=Lh ha
   have HB6:=Lh (HB.out.trans ((HBr.out.trans (hb6.mono HBr.out.size)).mono HB.out.size))
   have HQ6:=Lh (HQ.out.below (HBr.out.trans (hb6.mono HBr.out.size)) HQ.out.lt)
   obtain ⟨f0,f1,f2,f3,f4⟩:=frees5 HQ6.out
   obtain ⟨y0,y1,y2,y3,y4,yz⟩:=cells5 HQ6.out
   clear ha hb6 c0 c1 c2 c3 c4 cz
   go_wp2_with fail
   obtain ⟨W9,hW9,hxn,hfar,hbn⟩:=pstoreB HQ6.out (.slice A n c) (.int .i64 k6) (.int .i64 last) (.int .i64 x6) (.int .i64 p6)
   rw[←hW9]
   clear hW9
   obtain ⟨t0,t1,t2,t3,t4,tz⟩:=cells5 hxn
   exact bodyPost_ret (v:=.tuple #[.int .i64 0,pv A n c k6 last x6 p6]) (by simp [results,Tryz.results100,go_sem,pv,t0,t1,t2,t3,t4]) rfl ⟨_,[.int .i64 0],_,_,_,rfl,HV.out,⟨rfl,by omega,by omega⟩,HA.out,hbn w.heap.size w HB6.out (by omega)⟩
end Go.Proofs.YtjonaidancomgaaGreatDoor
