/- Parts of the proof, joined into one text: RpRulD, RpEnd. -/
import Derived.Test.YtjonaidancomgaaGreatDoorPRpRulC
import Derived.Test.YtjonaidancomgaaGreatDoorPRpParC
import Derived.Laws.Tables

namespace Go.Proofs.YtjonaidancomgaaGreatDoor
open Go.RowKit

namespace Sx
open Lx (Tok)
theorem rule_none {last:Int} {s:R Unit} (kk b:Nat) (h:begR s=0):(go s (rule last kk b)).Val Rule.zero∧(go s (rule last kk b)).void=go s fun l=>fail last l 100:=by
 cases s with
 | bad p e=>exact ⟨.of_bad _ _ _,rfl⟩
 | ok u l=>
  have hf:find ruleWords l=none:=by
   cases hf:find ruleWords l with
   | none=>rfl
   | some i=>unfold begR at h;simp only[hf] at h;omega
  have ho:oneOf last ruleWords l=fail last l 100:=by unfold oneOf;rw[hf]
  have hr:rule last kk b l=fail last l 100:=by
   cases kk with
   | zero=>rw [rule,ho];rfl
   | succ k=>rw [rule,ho];rfl
  rw[goOk,hr]
  exact ⟨.of_bad _ _ _,rfl⟩
theorem begR_some {s:R Unit} (h:begR s≠0):∃ l i,s = .ok () l∧find ruleWords l=some i∧begR s=(i:Int)+1∧i < 9:=by
 cases s with
 | bad p e=>exact absurd rfl h
 | ok u l=>
  cases hf:find ruleWords l with
  | none=>unfold begR at h;simp only[hf] at h;exact absurd rfl h
  | some i=>
   refine ⟨l,i,rfl,hf,by unfold begR;simp only[hf],?_⟩
   unfold find at hf
   exact (List.findIdx?_eq_some_iff_getElem.1 hf).1
theorem rule_limit {last:Int} {s:R Unit} (kk b:Nat) (h:begR s≠0) (hl:kk=0∨b=200∨(begR s=4∧kk=1)):(go s (rule last kk b)).Val Rule.zero∧(go s (rule last kk b)).void=go s fun l=>fail last l 2:=by
 obtain ⟨l,i,rfl,hf,hb,_⟩:=begR_some h
 have ho:oneOf last ruleWords l = .ok (i:Int) l.tail:=by unfold oneOf;rw[hf]
 have hr:rule last kk b l=fail last l 2:=by
  cases kk with
  | zero=>rw [rule,ho];rfl
  | succ k=>
   rw[rule,ho]
   show (if b=200∨((i:Int)+1=4∧k=0) then _ else _)=_
   rw[if_pos (by omega)]
 rw[goOk,hr]
 exact ⟨.of_bad _ _ _,rfl⟩
theorem rule_body {last:Int} {s:R Unit} (k:Nat) (h:begR s≠0) (hl:¬ (begR s=4∧k=0)):∃ l,s = .ok () l∧l.tail.length+1=l.length∧go s (rule last (k+1) 0)=go (.ok () l.tail) (ruleBody last (rule last k) (begR s)):=by
 obtain ⟨l,i,rfl,hf,hb,_⟩:=begR_some h
 have ho:oneOf last ruleWords l = .ok (i:Int) l.tail:=by unfold oneOf;rw[hf]
 refine ⟨l,rfl,find_tail hf,?_⟩
 rw[goOk,goOk,rule,ho]
 show (if (0:Nat)=200∨((i:Int)+1=4∧k=0) then _ else _)=_
 rw[if_neg (by omega),hb]
end Sx
set_option maxRecDepth 20000 in
set_option maxHeartbeats 2000000 in
theorem pRuleNone (T:List Lx.Tok) (A:Option Addr) (c:Nat) (last:Int) (lv:Int) (full:Bool) (kk b:Nat) (s:Sx.R Unit) (k e p:Int) (w:World) (hc:PCtx T A w) (hp:PAt T s k e p) (hop:Sx.begR s=0) :
  Calls Tryz.prog 46 #[pv A T.length c k last e p,.int .i64 lv,.bool full] w (PRead T A c last (vRuleB w.heap.size) (Sx.go s (Sx.rule last kk b)) w):=by
 have HC:=Lh hc
 have H1:=Lh (fun w' h=>pBegins T A c last s k e p w' h hp)
 have hval:=Sx.rule_none (last:=last) kk b hop
 obtain ⟨R,hR⟩:∃ R,R=Sx.go s (Sx.rule last kk b):=⟨_,rfl⟩
 rw[←hR] at hval ⊢
 have HV:=Lh hval.1
 have HF:=Lh (fun w' h=>pFail T A c last 100 (by decide) s k e p w' h hp)
 rw[←hval.2] at HF
 obtain ⟨n,hn⟩:∃ n,n=T.length:=⟨_,rfl⟩
 unfold PRead
 unfold PPost pv at HF
 unfold pv at H1 ⊢
 rw[←hn] at H1 HF ⊢
 obtain ⟨op,hop2⟩:∃ op,op=Sx.begR s:=⟨_,rfl⟩
 rw[←hop2] at H1
 rw[hop] at hop2
 subst hop2
 obtain ⟨W1,W2,W3,hW1,hW2,hW3,p1,p2,p3,hb,hsz⟩:=pbox6 w 38 #[.int .i64 0,.int .i64 0,.string ⟨#[]⟩,.int .i64 0,.int .i64 0,.slice none 0 0] (.slice A n c) (.int .i64 k) (.int .i64 last) (.int .i64 e) (.int .i64 p)
 have HB:=Lh hb;have HX_p:=Lh p1;have HX_a:=Lh p2;have HX_q:=Lh p3
 clear hc hp hn hb p1 p2 p3 hR hval
 obtain ⟨c_p0,c_p1,c_p2,c_p3,c_p4,z_p⟩:=cells5 HX_p.out
 go_enter Tryz.func46,Tryz.ntmps46
 go_upto_region 1 with fail
 rw[←hW1,←hW2,←hW3]
 clear hW1 hW2 hW3
 go_wp2_with fail
 refine (H1.out _ (HC.out.next HB.out)).mono ?_
 rintro e' w1 ⟨rfl,hb⟩
 clear c_p0 c_p1 c_p2 c_p3 c_p4 z_p
 have hgz:=hb.size
 replace HB:=bmb HB hb
 replace HX_p:=bmv HX_p hb
 replace HX_a:=bmv HX_a hb
 replace HX_q:=bmv HX_q hb
 clear hb
 obtain ⟨c_p0,c_p1,c_p2,c_p3,c_p4,z_p⟩:=cells5 HX_p.out
 go_wp2_with fail
 refine (HF.out _ (HC.out.next HB.out)).mono ?_
 rintro e' w4 ⟨k4,x4,p4,rfl,ha,hb⟩
 have HA:=Lh ha
 clear ha
 clear c_p0 c_p1 c_p2 c_p3 c_p4 z_p
 have hgz:=hb.size
 replace HB:=bmb HB hb
 replace HX_p:=bmv HX_p hb
 replace HX_a:=bmv HX_a hb
 replace HX_q:=bmv HX_q hb
 clear hb
 obtain ⟨c_a0,c_a1,c_a2,c_a3,c_a4,c_a5,z_a⟩:=cells6 HX_a.out
 obtain ⟨f_a0,f_a1,f_a2,f_a3,f_a4,f_a5⟩:=frees6 HX_a.out
 obtain ⟨c_q0,c_q1,c_q2,c_q3,c_q4,z_q⟩:=cells5 HX_q.out
 obtain ⟨f_q0,f_q1,f_q2,f_q3,f_q4⟩:=frees5 HX_q.out
 obtain ⟨W8,hW8,hxn,hfar,hbn⟩:=pstoreR HX_a.out (.int .i64 0) (.int .i64 0) (.string ⟨#[]⟩) (.int .i64 0) (.int .i64 0) (.slice none 0 0)
 replace HB:=Lh (hbn w.heap.size w HB.out (by omega))
 replace HX_p:=bfr hfar.1 HX_p (by omega)
 replace HX_q:=bfr hfar.1 HX_q (by omega)
 replace HX_a:=Lh hxn
 have hsz_W8:=hfar.2
 clear hxn hfar hbn
 obtain ⟨W9,hW9,hxn,hfar,hbn⟩:=pstoreB HX_q.out (.slice A n c) (.int .i64 k4) (.int .i64 last) (.int .i64 x4) (.int .i64 p4)
 replace HB:=Lh (hbn w.heap.size w HB.out (by omega))
 replace HX_p:=bfr hfar.1 HX_p (by omega)
 replace HX_a:=bfr hfar.1 HX_a (by omega)
 replace HX_q:=Lh hxn
 have hsz_W9:=hfar.2
 clear hxn hfar hbn
 rw[hW8] at hW9
 go_wp2_with fail
 rw[←hW9]
 clear hW9 hW8
 clear c_a0 c_a1 c_a2 c_a3 c_a4 c_a5 z_a f_a0 f_a1 f_a2 f_a3 f_a4 f_a5 c_q0 c_q1 c_q2 c_q3 c_q4 z_q f_q0 f_q1 f_q2 f_q3 f_q4
 obtain ⟨c_a0,c_a1,c_a2,c_a3,c_a4,c_a5,z_a⟩:=cells6 HX_a.out
 obtain ⟨c_q0,c_q1,c_q2,c_q3,c_q4,z_q⟩:=cells5 HX_q.out
 exact bodyPost_ret (v:=.tuple #[.agg #[.int .i64 0,.int .i64 0,.string ⟨#[]⟩,.int .i64 0,.int .i64 0,.slice none 0 0],pv A n c k4 last x4 p4]) (by simp [results,Tryz.results46,go_sem,pv,c_a0,c_a1,c_a2,c_a3,c_a4,c_a5,c_q0,c_q1,c_q2,c_q3,c_q4]) rfl ⟨_,[.agg #[.int .i64 0,.int .i64 0,.string ⟨#[]⟩,.int .i64 0,.int .i64 0,.slice none 0 0]],_,_,_,rfl,HV.out,vRule_leaf _ _ 0 0 [] 0 0 (by simp),HA.out,HB.out⟩
set_option maxRecDepth 20000 in
set_option maxHeartbeats 2000000 in
theorem pRuleLimit (T:List Lx.Tok) (A:Option Addr) (c:Nat) (last:Int) (lv:Int) (full:Bool) (kk b:Nat) (s:Sx.R Unit) (k e p:Int) (w:World) (hc:PCtx T A w) (hp:PAt T s k e p) (hop:Sx.begR s≠0) (hl:kk=0∨b=200∨(Sx.begR s=4∧kk=1)) (hlv:lv=17 - (kk:Int)) (hfu:full=decide (b=200)) (hk17:kk≤16) :
  Calls Tryz.prog 46 #[pv A T.length c k last e p,.int .i64 lv,.bool full] w (PRead T A c last (vRuleB w.heap.size) (Sx.go s (Sx.rule last kk b)) w):=by
 have HC:=Lh hc
 have H1:=Lh (fun w' h=>pBegins T A c last s k e p w' h hp)
 have hval:=Sx.rule_limit (last:=last) kk b hop hl
 obtain ⟨R,hR⟩:∃ R,R=Sx.go s (Sx.rule last kk b):=⟨_,rfl⟩
 rw[←hR] at hval ⊢
 have HV:=Lh hval.1
 have HF:=Lh (fun w' h=>pFail T A c last 2 (by decide) s k e p w' h hp)
 rw[←hval.2] at HF
 obtain ⟨n,hn⟩:∃ n,n=T.length:=⟨_,rfl⟩
 unfold PRead
 unfold PPost pv at HF
 unfold pv at H1 ⊢
 rw[←hn] at H1 HF ⊢
 obtain ⟨op,hop2⟩:∃ op,op=Sx.begR s:=⟨_,rfl⟩
 rw[←hop2] at H1
 rw[←hop2] at hop hl
 have hop3:(op == 0)=false:=by simpa using hop
 have Hl:=Lh hl
 clear hop hop2 hl
 obtain ⟨W1,W2,W3,hW1,hW2,hW3,p1,p2,p3,hb,hsz⟩:=pbox6 w 38 #[.int .i64 0,.int .i64 0,.string ⟨#[]⟩,.int .i64 0,.int .i64 0,.slice none 0 0] (.slice A n c) (.int .i64 k) (.int .i64 last) (.int .i64 e) (.int .i64 p)
 have HB:=Lh hb;have HX_p:=Lh p1;have HX_a:=Lh p2;have HX_q:=Lh p3
 clear hc hp hn hb p1 p2 p3 hR hval
 obtain ⟨c_p0,c_p1,c_p2,c_p3,c_p4,z_p⟩:=cells5 HX_p.out
 go_enter Tryz.func46,Tryz.ntmps46
 go_upto_region 1 with fail
 rw[←hW1,←hW2,←hW3]
 clear hW1 hW2 hW3
 go_wp2_with fail
 refine (H1.out _ (HC.out.next HB.out)).mono ?_
 rintro e' w1 ⟨rfl,hb⟩
 clear c_p0 c_p1 c_p2 c_p3 c_p4 z_p
 have hgz:=hb.size
 replace HB:=bmb HB hb
 replace HX_p:=bmv HX_p hb
 replace HX_a:=bmv HX_a hb
 replace HX_q:=bmv HX_q hb
 clear hb
 cases hf:full with
 | true=>
  subst hf
  clear hfu hlv
  obtain ⟨c_p0,c_p1,c_p2,c_p3,c_p4,z_p⟩:=cells5 HX_p.out
  go_wp2_with fail
  refine (HF.out _ (HC.out.next HB.out)).mono ?_
  rintro e' w4 ⟨k4,x4,p4,rfl,ha,hb⟩
  have HA:=Lh ha
  clear ha
  clear c_p0 c_p1 c_p2 c_p3 c_p4 z_p
  have hgz:=hb.size
  replace HB:=bmb HB hb
  replace HX_p:=bmv HX_p hb
  replace HX_a:=bmv HX_a hb
  replace HX_q:=bmv HX_q hb
  clear hb
  obtain ⟨c_a0,c_a1,c_a2,c_a3,c_a4,c_a5,z_a⟩:=cells6 HX_a.out
  obtain ⟨f_a0,f_a1,f_a2,f_a3,f_a4,f_a5⟩:=frees6 HX_a.out
  obtain ⟨c_q0,c_q1,c_q2,c_q3,c_q4,z_q⟩:=cells5 HX_q.out
  obtain ⟨f_q0,f_q1,f_q2,f_q3,f_q4⟩:=frees5 HX_q.out
  obtain ⟨W8,hW8,hxn,hfar,hbn⟩:=pstoreR HX_a.out (.int .i64 0) (.int .i64 0) (.string ⟨#[]⟩) (.int .i64 0) (.int .i64 0) (.slice none 0 0)
  replace HB:=Lh (hbn w.heap.size w HB.out (by omega))
  replace HX_p:=bfr hfar.1 HX_p (by omega)
  replace HX_q:=bfr hfar.1 HX_q (by omega)
  replace HX_a:=Lh hxn
  have hsz_W8:=hfar.2
  clear hxn hfar hbn
  obtain ⟨W9,hW9,hxn,hfar,hbn⟩:=pstoreB HX_q.out (.slice A n c) (.int .i64 k4) (.int .i64 last) (.int .i64 x4) (.int .i64 p4)
  replace HB:=Lh (hbn w.heap.size w HB.out (by omega))
  replace HX_p:=bfr hfar.1 HX_p (by omega)
  replace HX_a:=bfr hfar.1 HX_a (by omega)
  replace HX_q:=Lh hxn
  have hsz_W9:=hfar.2
  clear hxn hfar hbn
  rw[hW8] at hW9
  go_wp2_with fail
  rw[←hW9]
  clear hW9 hW8
  clear c_a0 c_a1 c_a2 c_a3 c_a4 c_a5 z_a f_a0 f_a1 f_a2 f_a3 f_a4 f_a5 c_q0 c_q1 c_q2 c_q3 c_q4 z_q f_q0 f_q1 f_q2 f_q3 f_q4
  obtain ⟨c_a0,c_a1,c_a2,c_a3,c_a4,c_a5,z_a⟩:=cells6 HX_a.out
  obtain ⟨c_q0,c_q1,c_q2,c_q3,c_q4,z_q⟩:=cells5 HX_q.out
  exact bodyPost_ret (v:=.tuple #[.agg #[.int .i64 0,.int .i64 0,.string ⟨#[]⟩,.int .i64 0,.int .i64 0,.slice none 0 0],pv A n c k4 last x4 p4]) (by simp [results,Tryz.results46,go_sem,pv,c_a0,c_a1,c_a2,c_a3,c_a4,c_a5,c_q0,c_q1,c_q2,c_q3,c_q4]) rfl ⟨_,[.agg #[.int .i64 0,.int .i64 0,.string ⟨#[]⟩,.int .i64 0,.int .i64 0,.slice none 0 0]],_,_,_,rfl,HV.out,vRule_leaf _ _ 0 0 [] 0 0 (by simp),HA.out,HB.out⟩
 | false=>
  subst hf
  have hb2:b≠200:=by
   intro e
   rw[e] at hfu
   simp at hfu
  clear hfu
  by_cases hz:kk=0
  ·have hlv2:lv > 16:=by omega
   clear hlv hz
   obtain ⟨c_p0,c_p1,c_p2,c_p3,c_p4,z_p⟩:=cells5 HX_p.out
   go_wp2_with fail
   refine (HF.out _ (HC.out.next HB.out)).mono ?_
   rintro e' w4 ⟨k4,x4,p4,rfl,ha,hb⟩
   have HA:=Lh ha
   clear ha
   clear c_p0 c_p1 c_p2 c_p3 c_p4 z_p
   have hgz:=hb.size
   replace HB:=bmb HB hb
   replace HX_p:=bmv HX_p hb
   replace HX_a:=bmv HX_a hb
   replace HX_q:=bmv HX_q hb
   clear hb
   obtain ⟨c_a0,c_a1,c_a2,c_a3,c_a4,c_a5,z_a⟩:=cells6 HX_a.out
   obtain ⟨f_a0,f_a1,f_a2,f_a3,f_a4,f_a5⟩:=frees6 HX_a.out
   obtain ⟨c_q0,c_q1,c_q2,c_q3,c_q4,z_q⟩:=cells5 HX_q.out
   obtain ⟨f_q0,f_q1,f_q2,f_q3,f_q4⟩:=frees5 HX_q.out
   obtain ⟨W8,hW8,hxn,hfar,hbn⟩:=pstoreR HX_a.out (.int .i64 0) (.int .i64 0) (.string ⟨#[]⟩) (.int .i64 0) (.int .i64 0) (.slice none 0 0)
   replace HB:=Lh (hbn w.heap.size w HB.out (by omega))
   replace HX_p:=bfr hfar.1 HX_p (by omega)
   replace HX_q:=bfr hfar.1 HX_q (by omega)
   replace HX_a:=Lh hxn
   have hsz_W8:=hfar.2
   clear hxn hfar hbn
   obtain ⟨W9,hW9,hxn,hfar,hbn⟩:=pstoreB HX_q.out (.slice A n c) (.int .i64 k4) (.int .i64 last) (.int .i64 x4) (.int .i64 p4)
   replace HB:=Lh (hbn w.heap.size w HB.out (by omega))
   replace HX_p:=bfr hfar.1 HX_p (by omega)
   replace HX_a:=bfr hfar.1 HX_a (by omega)
   replace HX_q:=Lh hxn
   have hsz_W9:=hfar.2
   clear hxn hfar hbn
   rw[hW8] at hW9
   go_wp2_with fail
   rw[←hW9]
   clear hW9 hW8
   clear c_a0 c_a1 c_a2 c_a3 c_a4 c_a5 z_a f_a0 f_a1 f_a2 f_a3 f_a4 f_a5 c_q0 c_q1 c_q2 c_q3 c_q4 z_q f_q0 f_q1 f_q2 f_q3 f_q4
   obtain ⟨c_a0,c_a1,c_a2,c_a3,c_a4,c_a5,z_a⟩:=cells6 HX_a.out
   obtain ⟨c_q0,c_q1,c_q2,c_q3,c_q4,z_q⟩:=cells5 HX_q.out
   exact bodyPost_ret (v:=.tuple #[.agg #[.int .i64 0,.int .i64 0,.string ⟨#[]⟩,.int .i64 0,.int .i64 0,.slice none 0 0],pv A n c k4 last x4 p4]) (by simp [results,Tryz.results46,go_sem,pv,c_a0,c_a1,c_a2,c_a3,c_a4,c_a5,c_q0,c_q1,c_q2,c_q3,c_q4]) rfl ⟨_,[.agg #[.int .i64 0,.int .i64 0,.string ⟨#[]⟩,.int .i64 0,.int .i64 0,.slice none 0 0]],_,_,_,rfl,HV.out,vRule_leaf _ _ 0 0 [] 0 0 (by simp),HA.out,HB.out⟩
  ·have h4:op=4∧kk=1:=by have:=Hl.out;omega
   obtain ⟨rfl,rfl⟩:=h4
   have hlv2:lv=16:=by omega
   clear hlv hz
   subst hlv2
   obtain ⟨c_p0,c_p1,c_p2,c_p3,c_p4,z_p⟩:=cells5 HX_p.out
   go_wp2_with fail
   refine (HF.out _ (HC.out.next HB.out)).mono ?_
   rintro e' w4 ⟨k4,x4,p4,rfl,ha,hb⟩
   have HA:=Lh ha
   clear ha
   clear c_p0 c_p1 c_p2 c_p3 c_p4 z_p
   have hgz:=hb.size
   replace HB:=bmb HB hb
   replace HX_p:=bmv HX_p hb
   replace HX_a:=bmv HX_a hb
   replace HX_q:=bmv HX_q hb
   clear hb
   obtain ⟨c_a0,c_a1,c_a2,c_a3,c_a4,c_a5,z_a⟩:=cells6 HX_a.out
   obtain ⟨f_a0,f_a1,f_a2,f_a3,f_a4,f_a5⟩:=frees6 HX_a.out
   obtain ⟨c_q0,c_q1,c_q2,c_q3,c_q4,z_q⟩:=cells5 HX_q.out
   obtain ⟨f_q0,f_q1,f_q2,f_q3,f_q4⟩:=frees5 HX_q.out
   obtain ⟨W8,hW8,hxn,hfar,hbn⟩:=pstoreR HX_a.out (.int .i64 0) (.int .i64 0) (.string ⟨#[]⟩) (.int .i64 0) (.int .i64 0) (.slice none 0 0)
   replace HB:=Lh (hbn w.heap.size w HB.out (by omega))
   replace HX_p:=bfr hfar.1 HX_p (by omega)
   replace HX_q:=bfr hfar.1 HX_q (by omega)
   replace HX_a:=Lh hxn
   have hsz_W8:=hfar.2
   clear hxn hfar hbn
   obtain ⟨W9,hW9,hxn,hfar,hbn⟩:=pstoreB HX_q.out (.slice A n c) (.int .i64 k4) (.int .i64 last) (.int .i64 x4) (.int .i64 p4)
   replace HB:=Lh (hbn w.heap.size w HB.out (by omega))
   replace HX_p:=bfr hfar.1 HX_p (by omega)
   replace HX_a:=bfr hfar.1 HX_a (by omega)
   replace HX_q:=Lh hxn
   have hsz_W9:=hfar.2
   clear hxn hfar hbn
   rw[hW8] at hW9
   go_wp2_with fail
   rw[←hW9]
   clear hW9 hW8
   clear c_a0 c_a1 c_a2 c_a3 c_a4 c_a5 z_a f_a0 f_a1 f_a2 f_a3 f_a4 f_a5 c_q0 c_q1 c_q2 c_q3 c_q4 z_q f_q0 f_q1 f_q2 f_q3 f_q4
   obtain ⟨c_a0,c_a1,c_a2,c_a3,c_a4,c_a5,z_a⟩:=cells6 HX_a.out
   obtain ⟨c_q0,c_q1,c_q2,c_q3,c_q4,z_q⟩:=cells5 HX_q.out
   exact bodyPost_ret (v:=.tuple #[.agg #[.int .i64 0,.int .i64 0,.string ⟨#[]⟩,.int .i64 0,.int .i64 0,.slice none 0 0],pv A n c k4 last x4 p4]) (by simp [results,Tryz.results46,go_sem,pv,c_a0,c_a1,c_a2,c_a3,c_a4,c_a5,c_q0,c_q1,c_q2,c_q3,c_q4]) rfl ⟨_,[.agg #[.int .i64 0,.int .i64 0,.string ⟨#[]⟩,.int .i64 0,.int .i64 0,.slice none 0 0]],_,_,_,rfl,HV.out,vRule_leaf _ _ 0 0 [] 0 0 (by simp),HA.out,HB.out⟩
theorem pRule (T:List Lx.Tok) (A:Option Addr) (c:Nat) (last:Int):∀ (kk:Nat),kk≤16→∀ (full:Bool) (s:Sx.R Unit) (k e p:Int) (w:World),PCtx T A w→PAt T s k e p→
  Calls Tryz.prog 46 #[pv A T.length c k last e p,.int .i64 (17 - (kk:Int)),.bool full] w (PRead T A c last (vRuleB w.heap.size) (Sx.go s (Sx.rule last kk (if full=true then 200 else 0))) w):=by
 intro kk
 induction kk with
 | zero=>
  intro _ full s k e p w hc hp
  by_cases hop:Sx.begR s=0
  ·exact pRuleNone T A c last _ full 0 _ s k e p w hc hp hop
  ·exact pRuleLimit T A c last _ full 0 _ s k e p w hc hp hop (.inl rfl) (by simp) (by cases full <;> rfl) (by omega)
 | succ kk ih=>
  intro hkk full s k e p w hc hp
  by_cases hop:Sx.begR s=0
  ·exact pRuleNone T A c last _ full (kk+1) _ s k e p w hc hp hop
  by_cases hfu:full=true
  ·subst hfu
   exact pRuleLimit T A c last _ true (kk+1) _ s k e p w hc hp hop (.inr (.inl rfl)) (by simp) rfl hkk
  obtain rfl:full=false:=by simpa using hfu
  by_cases h4:Sx.begR s=4∧kk=0
  ·exact pRuleLimit T A c last _ false (kk+1) _ s k e p w hc hp hop (.inr (.inr ⟨h4.1,by omega⟩)) (by simp) rfl hkk
  obtain ⟨l,hs,htl,hbody⟩:=Sx.rule_body (last:=last) kk hop h4
  obtain ⟨_,i,hs2,hf2,hbi,hi9⟩:=Sx.begR_some hop
  have hlv:((17:Int) - ((kk+1:Nat):Int))=16 - (kk:Int):=by omega
  have hrec:∀ (full:Bool) (s:Sx.R Unit) (k e p:Int) (w:World),PCtx T A w→PAt T s k e p→Calls Tryz.prog 46 #[pv A T.length c k last e p,.int .i64 ((16 - (kk:Int))+1),.bool full] w (PRead T A c last (vRuleB w.heap.size) (Sx.go s (Sx.rule last kk (if full=true then 200 else 0))) w):=fun full s k e p w h1 h2=>by
   rw[show (16 - (kk:Int))+1=17 - (kk:Int) by omega]
   exact ih (by omega) full s k e p w h1 h2
  rcases hp.cases with ⟨h,_⟩ | ⟨h,_⟩ | ⟨j,t,h,rfl,rfl,rfl,hj,_⟩
  ·rw[hs] at h;cases h
  ·rw[hs] at h;injection h with _ h;subst h;simp at htl
  have hl:l=t::T.drop (j+1):=by rw [hs] at h;injection h
  have hp1:PAt T (.ok () l.tail) ((j:Int)+1) 0 0:=by rw [hl,List.tail_cons];exact PAt.tail hj
  have hfew:=hc.few
  rw[hlv,if_neg (by simp),hbody]
  have hb9:Sx.begR s=1∨Sx.begR s=2∨Sx.begR s=3∨Sx.begR s=4∨Sx.begR s=5∨Sx.begR s=6∨Sx.begR s=7∨Sx.begR s=8∨Sx.begR s=9:=by omega
  rcases hb9 with h | h | h | h | h | h | h | h | h
  ·exact pRule12 T A c last _ (by omega) kk (by omega) (by omega) 1 rfl rfl rfl rfl rfl rfl rfl s (.ok () l.tail) _ j w hc hp hp1 (by omega) (by omega) h hrec (by rw [h];rfl)
  ·exact pRule12 T A c last _ (by omega) kk (by omega) (by omega) 2 rfl rfl rfl rfl rfl rfl rfl s (.ok () l.tail) _ j w hc hp hp1 (by omega) (by omega) h hrec (by rw [h];rfl)
  ·exact pRule12 T A c last _ (by omega) kk (by omega) (by omega) 3 rfl rfl rfl rfl rfl rfl rfl s (.ok () l.tail) _ j w hc hp hp1 (by omega) (by omega) h hrec (by rw [h];rfl)
  ·exact pRule4 T A c last _ (by omega) (by have:kk≠0:=fun e=>h4 ⟨h,e⟩;simp;omega) kk (by omega) (by omega) s (.ok () l.tail) _ j w hc hp hp1 (by omega) (by omega) h (fun s k e p w h1 h2=>by simpa using hrec false s k e p w h1 h2) (by rw [h];rfl)
  ·exact pRule5 T A c last _ (by omega) s (.ok () l.tail) _ j w hc hp hp1 (by omega) (by omega) h (by rw [h];rfl)
  ·exact pRule6 T A c last _ (by omega) s (.ok () l.tail) _ j w hc hp hp1 (by omega) (by omega) h (by rw [h];rfl)
  ·exact pRule7 T A c last _ (by omega) s (.ok () l.tail) _ j w hc hp hp1 (by omega) (by omega) h (by rw [h];rfl)
  ·exact pRule8 T A c last _ (by omega) s (.ok () l.tail) _ j w hc hp hp1 (by omega) (by omega) h (by rw [h];rfl)
  ·exact pRule9 T A c last _ (by omega) s (.ok () l.tail) _ j w hc hp hp1 (by omega) (by omega) h (by rw [h];rfl)
end Go.Proofs.YtjonaidancomgaaGreatDoor

namespace Go.Proofs.YtjonaidancomgaaGreatDoor
open Go.RowKit

theorem put_ne (a:Act) {d k:Nat} (v:Value) (h:d≠k):(a.put (some d) v).eval (.tmp k)=a.eval (.tmp k):=by
 simp[Act.put,Act.eval,Array.getD_eq_getD_getElem?,Array.getElem?_setIfInBounds_ne h]
theorem put_eq (a:Act) {d:Nat} (v:Value) (h:d < a.tmps.size):(a.put (some d) v).eval (.tmp d)=v:=by
 simp[Act.put,Act.eval,Array.getD_eq_getD_getElem?,h]
theorem put_size (a:Act) (d:Nat) (v:Value):(a.put (some d) v).tmps.size=a.tmps.size:=by simp [Act.put]
section
variable {P : Program} {ops : Array Oper} {o : Oper} {a : Act} {w : World} {K : Act → World → Prop} {Q : Exit → Act → World → Prop} {E : Prop}
theorem step_ld (hg:o.guard=none) {t:TypeId} {p:Operand} (ho:o.op = .load t p) {b:Nat} (hp:a.eval p = .pointer (some ⟨b,0,none⟩)) {v:Value} (hr:(loadVar t ⟨b,0,none⟩).run P w = .ok v w) (hK:K (a.put o.dst v) w) :
  if Region.wanted o (yielded ops a.tmps)=true then Oper.wp P o a w K Q else E:=by
 rw[if_pos (by simp [Region.wanted,hg])]
 unfold Oper.wp execOp
 simp only[ho,hp,Instr.loadAt,Instr.sureAddr,Sem.run_bind,Sem.run_pure,Result.andThen_ok,hr]
 exact hK
theorem step_st (hg:o.guard=none) {ty:TypeId} {x y:Operand} (ho:o.op = .store ty x y) {g:Nat} {cells:Array Value} (hx:a.eval x = .pointer (some ⟨g,0,none⟩)) (hy:a.eval y = .agg cells) {t:TypeId} {old:Array Value}
  (hb:Blk w g t old) (hi:(P.info? ty).map (·.size)=some cells.size) (hold:old.size=cells.size) (h1:cells.all (·.oneCell')=true)
  (h:∀ W,Blk W g t cells→(∀ k,k≠g→W.heap[k]?=w.heap[k]?)→W.heap.size=w.heap.size→(∀ (B:Nat) (w0:World),Below B w0 w→B≤g→Below B w0 W)→K (a.put o.dst undef) W) :
  if Region.wanted o (yielded ops a.tmps)=true then Oper.wp P o a w K Q else E:=by
 rw[if_pos (by simp [Region.wanted,hg])]
 have hsz:(w.setRow g cells).heap.size=w.heap.size:=by simp [World.setRow]
 exact wp_store_row ty x y ho g cells hx hy t old hb hi hold h1 (h _ (setRow_heap w g old cells t (0,0) hb) (fun k hk=>setRow_other w g k cells hk) hsz (fun B w0 hw hB=>⟨hw.os,hw.tape,hw.output,by rw [hsz];exact hw.size,fun k hk=>(setRow_other w g k cells (by omega)).trans (hw.block k hk)⟩))
theorem step_call (hg:o.guard=none) {f:FuncId} {args:Array Operand} {at_:Array TypeId} (ho:o.op = .call { callee:=.value (.func f),args:=args,argTypes:=at_ }) (hcf:∀ vs,(callFunc f vs).run P w = .ok (.enter f vs) w) {R:Ending→World→Prop} (hc:Calls P f (args.map a.eval) w R)
  (h:∀ e w',R e w'→∃ v,e = .returned v∧K (a.put o.dst v) w'):if Region.wanted o (yielded ops a.tmps)=true then Oper.wp P o a w K Q else E:=by
 rw[if_pos (by simp [Region.wanted,hg])]
 unfold Oper.wp
 have he:(execOp a.eval o).run P w = .ok (.enter f (args.map a.eval)) w:=by
  simp[execOp,ho,resolve,invoke,Act.eval,go_sem,hcf]
 rw[he,Oper.upon_enter]
 refine hc.mono fun e w' hR=>?_
 obtain ⟨v,rfl,hK⟩:=h e w' hR
 exact hK
end
theorem results2 {fn:Func} {T U:TypeId} (hres:fn.results=#[.cell 2 T,.cell 3 U]) {P:Program} {a:Act} {W:World} {ba bq:Nat} (ha:a.eval (.tmp 2) = .pointer (some ⟨ba,0,none⟩)) (hq:a.eval (.tmp 3) = .pointer (some ⟨bq,0,none⟩)) {x y:Value}
  (h1:(loadVar T ⟨ba,0,none⟩).run P W = .ok x W) (h2:(loadVar U ⟨bq,0,none⟩).run P W = .ok y W):(results fn a.tmps).run P W = .ok (.tuple #[x,y]) W:=by
 have ha':a.tmps.getD 2 undef = .pointer (some ⟨ba,0,none⟩):=ha
 have hq':a.tmps.getD 3 undef = .pointer (some ⟨bq,0,none⟩):=hq
 unfold results
 rw[hres]
 simp only[Array.mapM_eq_mapM_toList,List.mapM_cons,List.mapM_nil,ha',hq',asAddr,Sem.run_bind,Sem.run_pure,Result.andThen_ok,h1,h2,Sem.run_map]
 rfl
theorem enter_sign (vs:Array Value) (w:World):(callFunc 96 vs).run Tryz.prog w = .ok (.enter 96 vs) w:=by
 have hn : Tryz.f96.name ≠ "runtime.NumGoroutine" := fun h => by
  have h2 : (Tryz.f96.name == "runtime.NumGoroutine") = false := by kernel_rfl
  rw[h] at h2;exact absurd h2 (by decide)
 have hb:Tryz.f96.body≠none:=fun h=>by
  have h2:Tryz.f96.body.isNone=false:=by kernel_rfl
  rw[h] at h2;cases h2
 simp[callFunc,Tryz.func96,go_sem,hn,hb]
set_option maxRecDepth 20000 in
set_option maxHeartbeats 1000000 in
theorem endDraw {fn:Func} {T:TypeId} {xs zs:Array Value} (hi:(Tryz.prog.info? T).map (·.size)=some xs.size) (hzs:zs.size=xs.size) (h1:xs.all (·.oneCell')=true) (hres:fn.results=#[.cell 2 T,.cell 3 64])
  {id sx sp d0 d1 d2 F:Nat} {pos:String} {c2:Value} {tc:TypeId} {a:Act} (hs:3 < d0∧3 < d1∧3 < d2∧sx≠d0∧sx≠d1∧sx≠d2∧sp≠d0∧d0≠d1∧d0≠d2∧d1≠d2∧d0 < a.tmps.size∧d1 < a.tmps.size∧d2 < a.tmps.size)
  {bx bp ba bq:Nat} (hlx0:∀ (b:Nat) (W:World),Blk W b T xs→(loadVar T ⟨b,0,none⟩).run Tryz.prog W = .ok (.agg xs) W) (hx:a.eval (.tmp sx) = .pointer (some ⟨bx,0,none⟩)) (hp:a.eval (.tmp sp) = .pointer (some ⟨bp,0,none⟩)) (ha:a.eval (.tmp 2) = .pointer (some ⟨ba,0,none⟩)) (hq:a.eval (.tmp 3) = .pointer (some ⟨bq,0,none⟩)) (hdf:a.defers = []) (hbq:ba≠bq)
  {w wc:World} {ps z5:Array Value} (hps:ps.size=5) (hz5:z5.size=5) (HX:Blk wc bx T xs) (HP:Blk wc bp 64 ps) (HA:Blk wc ba T zs) (HQ:Blk wc bq 64 z5) (hba:w.heap.size≤ba) (hbq2:w.heap.size≤bq) (HB:Below w.heap.size w wc)
  {Post:Array Value→World→Prop} (hcf:∀ vs w,(callFunc F vs).run Tryz.prog w = .ok (.enter F vs) w)
  (hcall:Calls Tryz.prog F #[.agg ps,c2] wc.drew fun e w6=>∃ qs:Array Value,e = .returned (.agg qs)∧qs.size=5∧qs.all (·.oneCell')=true∧Below wc.drew.heap.size wc.drew w6∧Post qs w6)
  {Rp:Ending→World→Prop} {K:Act→World→Prop} (hK:∀ (a:Act) (w':World),Code.wp Tryz.prog Code.ret (bodyPost Tryz.prog fn Rp) a w'→K a w')
  (hpost:∀ (qs:Array Value) (w6 W:World),Post qs w6→Below wc.heap.size wc w6→W.heap.size=w6.heap.size→(∀ k,k≠ba→k≠bq→W.heap[k]?=w6.heap[k]?)→Below w.heap.size w W→Rp (.returned (.tuple #[.agg xs,.agg qs])) W) :
  Code.wp Tryz.prog (Code.region id #[{ dst:=some d0,op:=.load T (.tmp sx),type:=T,pos:=pos,after:=#[],guard:=none },{ dst:=some d1,op:=.load 64 (.tmp sp),type:=64,pos:=pos,after:=#[],guard:=none },{ dst:=some d2,op:=.call { callee:=.value (.func F),args:=#[.tmp d1,.const c2],argTypes:=#[64,tc] },type:=64,pos:=pos,after:=#[{ on:=1,ground:=.data }],guard:=none },
   { dst:=none,op:=.store T (.tmp 2) (.tmp d0),type:=0,pos:=pos,after:=#[{ on:=0,ground:=.data },{ on:=2,ground:=.chain },{ on:=0,ground:=.phase },{ on:=1,ground:=.textOnly .lateStores },{ on:=2,ground:=.textOnly .lateStoresUnsure }],guard:=none },
   { dst:=none,op:=.store 64 (.tmp 3) (.tmp d2),type:=0,pos:=pos,after:=#[{ on:=2,ground:=.data },{ on:=3,ground:=.chain },{ on:=0,ground:=.phase },{ on:=1,ground:=.phase },{ on:=2,ground:=.phase },{ on:=3,ground:=.phase }],guard:=none }] true) (Exit.then K (bodyPost Tryz.prog fn Rp)) a wc:=by
 obtain ⟨s0,s1,s2,x0,x1,x2,p0,d01,d02,d12,z0,z1,z2⟩:=hs
 have hsp:(Tryz.prog.info? 64).map (·.size)=some 5:=by kernel_rfl
 have hlx:∀ W,Below wc.heap.size wc W→(loadVar T ⟨bx,0,none⟩).run Tryz.prog W = .ok (.agg xs) W:=fun W hb=>hlx0 bx W (HX.below hb HX.lt)
 have hlp:∀ W,Below wc.heap.size wc W→(loadVar 64 ⟨bp,0,none⟩).run Tryz.prog W = .ok (.agg ps) W:=fun W hb=>run_loadVar_row W bp _ _ ps (0,0) _ (HP.below hb HP.lt) Tryz.underlying64 rfl (by rw [hps];exact hsp)
 have hdr:Below wc.heap.size wc wc.drew:=(Below.refl _ _).drew
 refine wp_region_any (by kernel_rfl) ?_
 change wpAny _ _ _ _ _ _ _ (World.drew _)
 have hcl:∀ {ops:Array Oper} {o:Oper} {a':Act} {K':Act→World→Prop} {Q':Exit→Act→World→Prop} {E:Prop},o.guard=none→o.op = .call { callee:=.value (.func F),args:=#[.tmp d1,.const c2],argTypes:=#[64,tc] }→a'.eval (.tmp d1) = .agg ps→(∀ (qs:Array Value) (w6:World),qs.size=5→qs.all (·.oneCell')=true→Below wc.heap.size wc w6→Post qs w6→K' (a'.put o.dst (.agg qs)) w6)→if Region.wanted o (yielded ops a'.tmps)=true then Oper.wp Tryz.prog o a' wc.drew K' Q' else E:=by
  intro ops o a' K' Q' E hg ho he h
  refine step_call hg ho (fun vs=>hcf vs _) (R:=fun e w6=>∃ qs:Array Value,e = .returned (.agg qs)∧qs.size=5∧qs.all (·.oneCell')=true∧Below wc.drew.heap.size wc.drew w6∧Post qs w6) ?_ fun e w' hR=>?_
  ·rw[show #[Operand.tmp d1,Operand.const c2].map a'.eval=#[Value.agg ps,c2] by simp [he];rfl]
   exact hcall
  ·obtain ⟨qs,he,h5,ha,hb,hp⟩:=hR
   exact ⟨_,he,h qs w' h5 ha (hdr.trans hb) hp⟩
 refine wpAny_ready (rs:=[0,1]) (by kernel_rfl) (by simp) ?_
 refine AllReady.cons rfl (fun K' hK'=>?_) (AllReady.cons rfl (fun K' hK'=>?_) AllReady.nil)
 ·refine step_ld rfl rfl hx (hlx _ hdr) ?_
  refine hK' (a.put (some d0) (.agg xs)) _ ?_
  refine wpAny_ready (rs:=[1]) (by kernel_rfl) (by simp) ?_
  refine AllReady.cons rfl (fun K' hK'=>?_) AllReady.nil
  refine step_ld rfl rfl ((put_ne a _ (Ne.symm p0)).trans hp) (hlp _ hdr) ?_
  refine hK' ((a.put (some d0) (.agg xs)).put (some d1) (.agg ps)) _ ?_
  refine wpAny_ready (rs:=[2]) (by kernel_rfl) (by simp) ?_
  refine AllReady.cons rfl (fun K' hK'=>?_) AllReady.nil
  refine hcl rfl rfl (put_eq _ _ (by rw [put_size];exact z1)) (fun qs w6 hq5 hq1 hb6 hP6=>?_)
  refine hK' (((a.put (some d0) (.agg xs)).put (some d1) (.agg ps)).put (some d2) (.agg qs)) _ ?_
  have E0:(((a.put (some d0) (.agg xs)).put (some d1) (.agg ps)).put (some d2) (.agg qs)).eval (.tmp d0) = .agg xs:=(put_ne _ _ (Ne.symm d02)).trans ((put_ne _ _ (Ne.symm d01)).trans (put_eq _ _ z0))
  have E2:(((a.put (some d0) (.agg xs)).put (some d1) (.agg ps)).put (some d2) (.agg qs)).eval (.tmp d2) = .agg qs:=put_eq _ _ (by rw [put_size,put_size];exact z2)
  have EA:(((a.put (some d0) (.agg xs)).put (some d1) (.agg ps)).put (some d2) (.agg qs)).eval (.tmp 2)=_:=(put_ne _ _ (by omega)).trans ((put_ne _ _ (by omega)).trans ((put_ne _ _ (by omega)).trans ha))
  have EQ:(((a.put (some d0) (.agg xs)).put (some d1) (.agg ps)).put (some d2) (.agg qs)).eval (.tmp 3)=_:=(put_ne _ _ (by omega)).trans ((put_ne _ _ (by omega)).trans ((put_ne _ _ (by omega)).trans hq))
  refine wpAny_ready (rs:=[3]) (by kernel_rfl) (by simp) ?_
  refine AllReady.cons rfl (fun K' hK'=>?_) AllReady.nil
  refine step_st rfl rfl EA E0 (HA.below hb6 HA.lt) hi hzs h1 fun W3 hA3 hf3 hs3 hB3=>?_
  refine hK' _ W3 ?_
  refine wpAny_ready (rs:=[4]) (by kernel_rfl) (by simp) ?_
  refine AllReady.cons rfl (fun K' hK'=>?_) AllReady.nil
  refine step_st rfl rfl EQ E2 ((hf3 bq (Ne.symm hbq)).trans (HQ.below hb6 HQ.lt)) (by rw [hq5];exact hsp) (by rw [hz5,hq5]) hq1 fun W4 hQ4 hf4 hs4 hB4=>?_
  refine hK' _ W4 ?_
  refine wpAny_done (by kernel_rfl) ?_ _
  refine hK _ W4 (wp_ret (bodyPost_ret (results2 hres EA EQ (hlx0 ba W4 ((hf4 ba hbq).trans hA3)) (run_loadVar_row W4 bq _ _ qs (0,0) _ hQ4 Tryz.underlying64 rfl (by rw [hq5];exact hsp))) hdf (hpost qs w6 W4 hP6 hb6 (hs4.trans hs3) (fun k h1 h2=>(hf4 k h2).trans (hf3 k h1)) (hB4 _ _ (hB3 _ _ (HB.trans (hb6.mono HB.size)) hba) hbq2))))
 ·refine step_ld rfl rfl hp (hlp _ hdr) ?_
  refine hK' (a.put (some d1) (.agg ps)) _ ?_
  refine wpAny_ready (rs:=[0,2]) (by kernel_rfl) (by simp) ?_
  refine AllReady.cons rfl (fun K' hK'=>?_) (AllReady.cons rfl (fun K' hK'=>?_) AllReady.nil)
  ·refine step_ld rfl rfl ((put_ne a _ (Ne.symm x1)).trans hx) (hlx _ hdr) ?_
   refine hK' ((a.put (some d1) (.agg ps)).put (some d0) (.agg xs)) _ ?_
   refine wpAny_ready (rs:=[2]) (by kernel_rfl) (by simp) ?_
   refine AllReady.cons rfl (fun K' hK'=>?_) AllReady.nil
   refine hcl rfl rfl ((put_ne _ _ d01).trans (put_eq _ _ z1)) (fun qs w6 hq5 hq1 hb6 hP6=>?_)
   refine hK' (((a.put (some d1) (.agg ps)).put (some d0) (.agg xs)).put (some d2) (.agg qs)) _ ?_
   have E0:(((a.put (some d1) (.agg ps)).put (some d0) (.agg xs)).put (some d2) (.agg qs)).eval (.tmp d0) = .agg xs:=(put_ne _ _ (Ne.symm d02)).trans (put_eq _ _ (by rw [put_size];exact z0))
   have E2:(((a.put (some d1) (.agg ps)).put (some d0) (.agg xs)).put (some d2) (.agg qs)).eval (.tmp d2) = .agg qs:=put_eq _ _ (by rw [put_size,put_size];exact z2)
   have EA:(((a.put (some d1) (.agg ps)).put (some d0) (.agg xs)).put (some d2) (.agg qs)).eval (.tmp 2)=_:=(put_ne _ _ (by omega)).trans ((put_ne _ _ (by omega)).trans ((put_ne _ _ (by omega)).trans ha))
   have EQ:(((a.put (some d1) (.agg ps)).put (some d0) (.agg xs)).put (some d2) (.agg qs)).eval (.tmp 3)=_:=(put_ne _ _ (by omega)).trans ((put_ne _ _ (by omega)).trans ((put_ne _ _ (by omega)).trans hq))
   refine wpAny_ready (rs:=[3]) (by kernel_rfl) (by simp) ?_
   refine AllReady.cons rfl (fun K' hK'=>?_) AllReady.nil
   refine step_st rfl rfl EA E0 (HA.below hb6 HA.lt) hi hzs h1 fun W3 hA3 hf3 hs3 hB3=>?_
   refine hK' _ W3 ?_
   refine wpAny_ready (rs:=[4]) (by kernel_rfl) (by simp) ?_
   refine AllReady.cons rfl (fun K' hK'=>?_) AllReady.nil
   refine step_st rfl rfl EQ E2 ((hf3 bq (Ne.symm hbq)).trans (HQ.below hb6 HQ.lt)) (by rw [hq5];exact hsp) (by rw [hz5,hq5]) hq1 fun W4 hQ4 hf4 hs4 hB4=>?_
   refine hK' _ W4 ?_
   refine wpAny_done (by kernel_rfl) ?_ _
   refine hK _ W4 (wp_ret (bodyPost_ret (results2 hres EA EQ (hlx0 ba W4 ((hf4 ba hbq).trans hA3)) (run_loadVar_row W4 bq _ _ qs (0,0) _ hQ4 Tryz.underlying64 rfl (by rw [hq5];exact hsp))) hdf (hpost qs w6 W4 hP6 hb6 (hs4.trans hs3) (fun k h1 h2=>(hf4 k h2).trans (hf3 k h1)) (hB4 _ _ (hB3 _ _ (HB.trans (hb6.mono HB.size)) hba) hbq2))))
  ·refine hcl rfl rfl (put_eq _ _ z1) (fun qs w6 hq5 hq1 hb6 hP6=>?_)
   refine hK' ((a.put (some d1) (.agg ps)).put (some d2) (.agg qs)) _ ?_
   refine wpAny_ready (rs:=[0]) (by kernel_rfl) (by simp) ?_
   refine AllReady.cons rfl (fun K' hK'=>?_) AllReady.nil
   refine step_ld rfl rfl ((put_ne _ _ (Ne.symm x2)).trans ((put_ne a _ (Ne.symm x1)).trans hx)) (hlx _ hb6) ?_
   refine hK' (((a.put (some d1) (.agg ps)).put (some d2) (.agg qs)).put (some d0) (.agg xs)) _ ?_
   have E0:(((a.put (some d1) (.agg ps)).put (some d2) (.agg qs)).put (some d0) (.agg xs)).eval (.tmp d0) = .agg xs:=put_eq _ _ (by rw [put_size,put_size];exact z0)
   have E2:(((a.put (some d1) (.agg ps)).put (some d2) (.agg qs)).put (some d0) (.agg xs)).eval (.tmp d2) = .agg qs:=(put_ne _ _ d02).trans (put_eq _ _ (by rw [put_size];exact z2))
   have EA:(((a.put (some d1) (.agg ps)).put (some d2) (.agg qs)).put (some d0) (.agg xs)).eval (.tmp 2)=_:=(put_ne _ _ (by omega)).trans ((put_ne _ _ (by omega)).trans ((put_ne _ _ (by omega)).trans ha))
   have EQ:(((a.put (some d1) (.agg ps)).put (some d2) (.agg qs)).put (some d0) (.agg xs)).eval (.tmp 3)=_:=(put_ne _ _ (by omega)).trans ((put_ne _ _ (by omega)).trans ((put_ne _ _ (by omega)).trans hq))
   refine wpAny_ready (rs:=[3]) (by kernel_rfl) (by simp) ?_
   refine AllReady.cons rfl (fun K' hK'=>?_) AllReady.nil
   refine step_st rfl rfl EA E0 (HA.below hb6 HA.lt) hi hzs h1 fun W3 hA3 hf3 hs3 hB3=>?_
   refine hK' _ W3 ?_
   refine wpAny_ready (rs:=[4]) (by kernel_rfl) (by simp) ?_
   refine AllReady.cons rfl (fun K' hK'=>?_) AllReady.nil
   refine step_st rfl rfl EQ E2 ((hf3 bq (Ne.symm hbq)).trans (HQ.below hb6 HQ.lt)) (by rw [hq5];exact hsp) (by rw [hz5,hq5]) hq1 fun W4 hQ4 hf4 hs4 hB4=>?_
   refine hK' _ W4 ?_
   refine wpAny_done (by kernel_rfl) ?_ _
   refine hK _ W4 (wp_ret (bodyPost_ret (results2 hres EA EQ (hlx0 ba W4 ((hf4 ba hbq).trans hA3)) (run_loadVar_row W4 bq _ _ qs (0,0) _ hQ4 Tryz.underlying64 rfl (by rw [hq5];exact hsp))) hdf (hpost qs w6 W4 hP6 hb6 (hs4.trans hs3) (fun k h1 h2=>(hf4 k h2).trans (hf3 k h1)) (hB4 _ _ (hB3 _ _ (HB.trans (hb6.mono HB.size)) hba) hbq2))))
end Go.Proofs.YtjonaidancomgaaGreatDoor
