/- Parts of the proof, joined into one text: RpRulC. -/
import Derived.Test.YtjonaidancomgaaGreatDoorPRpRulB
import Derived.Maps.AppendAt
import Derived.Deep.CutRange
import Derived.Deep.CutBlock

namespace Go.Proofs.YtjonaidancomgaaGreatDoor
open Go.RowKit

namespace Sx
open Lx (Tok)
def fuel (s:R Unit):Nat:=match s with | .ok _ l=>l.length.succ | .bad _ _=>0
theorem body_kids {last:Int} (s:R Unit) (f:Nat→List Tok→R Rule) (g:List Rule→Rule):go s (fun l=>(sign last 123 l).bind fun _ l=>(kids last f l.length.succ [] l).bind fun ks l=>.ok (g ks) l)=(go (go s (sign last 123)) fun l=>kids last f (fuel (go s (sign last 123))) [] l).bind fun ks l=>.ok (g ks) l:=by
 cases s with
 | bad p e=>rfl
 | ok u l=>
  show (sign last 123 l).bind _=(go (sign last 123 l) fun l'=>kids last f (fuel (sign last 123 l)) [] l').bind _
  cases sign last 123 l <;> rfl
theorem kids_end {last:Int} {st:R Unit} {f:Nat→List Tok→R Rule} {gk:Nat} {ks:List Rule} {g:List Rule→Rule} {R0:R Rule} (hR:R0=(go st fun l=>kids last f gk ks l).bind fun ks l=>.ok (g ks) l) (hg:∀ l,st = .ok () l→l.length+1≤gk) (h:(∃ p e,st = .bad p e)∨st.hits 3 [125]=true) :
  R0.Val (g ks)∧R0.void=go st (sign last 125):=by
 rcases h with ⟨p,e,rfl⟩ | h
 ·rw[hR];exact ⟨.of_bad _ _ _,rfl⟩
 ·obtain ⟨l,rfl,h1,h2⟩:=hits_need (last:=last) st h
  have:=hg l rfl
  obtain ⟨g',rfl⟩:∃ g',gk=g'+1:=⟨gk - 1,by omega⟩
  have h3:go (.ok () l) (sign last 125) = .ok () l.tail:=h2
  have h4:(go (.ok () l) fun l=>kids last f (g'+1) ks l) = .ok ks l.tail:=by
   show kids last f (g'+1) ks l=_
   unfold kids
   rw[if_pos h1]
  rw[hR,h4,h3]
  exact ⟨.of_ok _ _,rfl⟩
theorem kids_go {last:Int} {l:List Tok} {f:Nat→List Tok→R Rule} {g':Nat} {ks:List Rule} (h:hit 3 [125] l=false):(go (.ok () l) fun l=>kids last f (g'+1) ks l)=go (.ok () l) fun l=>(f ks.length l).bind fun k l=>(sign last 59 l).bind fun _ l=>kids last f g' (ks++[k]) l:=by
 show kids last f (g'+1) ks l=_
 rw[goOk]
 rw[kids,h]
 rfl
theorem rule_full (last:Int) (k b:Nat) (l:List Tok):rule last k b l=rule last k (if ((b:Int) == 200)=true then 200 else 0) l:=by
 cases k with
 | zero=>rfl
 | succ k=>
  by_cases hb:b=200
  ·subst hb;rfl
  ·have:((b:Int) == 200)=false:=by simp;omega
   rw[this,if_neg (by simp)]
   rw[rule,rule]
   congr 1
   funext i r
   simp[hb]
end Sx
theorem PAt.fuel {T:List Lx.Tok} {s:Sx.R Unit} {k e p:Int} (h:PAt T s k e p):Sx.fuel s≤T.length+1:=by
 cases s with
 | bad q x=>exact Nat.zero_le _
 | ok u l=>
  obtain ⟨_,_,j,_,_,rfl⟩:=h
  show (T.drop j).length.succ≤_
  rw[List.length_drop];omega
set_option maxRecDepth 20000 in
set_option maxHeartbeats 2000000 in
theorem pRule12 (T:List Lx.Tok) (A:Option Addr) (c:Nat) (last:Int) (lv:Int) (_hlv:¬ lv > 16) (kk:Nat) (hl3:lv≤16) (hl4:0≤lv) (o:Int) (q0:(o == 0)=false) (q4:(o == 4)=false) (q5:(o == 5)=false) (q6:(o == 6)=false) (q7:(o == 7)=false) (q8:(o == 8)=false) (q9:(o == 9)=false)(s s1:Sx.R Unit) (R:Sx.R Sx.Rule) (k:Int) (w:World) (hc:PCtx T A w) (hp:PAt T s k 0 0) (hp1:PAt T s1 (k+1) 0 0) (hk0:0≤k) (hk1:k≤1000000) (hop:Sx.begR s=o) (hrec:∀ (full:Bool) (s:Sx.R Unit) (k e p:Int) (w:World),PCtx T A w→PAt T s k e p→Calls Tryz.prog 46 #[pv A T.length c k last e p,.int .i64 (lv+1),.bool full] w (PRead T A c last (vRuleB w.heap.size) (Sx.go s (Sx.rule last kk (if full=true then 200 else 0))) w)) (hR:R=Sx.go s1 (fun l=>(if (o == 3)=true then Sx.number last 0 200 l else .ok 0 l).bind fun n l=>(Sx.sign last 123 l).bind fun _ l=>(Sx.kids last (Sx.rule last kk) l.length.succ [] l).bind fun ks l=>.ok (Sx.Rule.mk o 0 [] n 0 ks) l)) :
  Calls Tryz.prog 46 #[pv A T.length c k last 0 0,.int .i64 lv,.bool false] w (PRead T A c last (vRuleB w.heap.size) R w):=by
 have HRec:=Lh hrec;clear hrec
 have HC:=Lh hc
 have H1:=Lh (fun w' h=>pBegins T A c last s k 0 0 w' h hp)
 rw[hop] at H1
 have hlen:=hc.toks.len
 have HP1:=Lh hp1
 obtain ⟨n,hn⟩:∃ n,n=T.length:=⟨_,rfl⟩
 unfold PRead
 have Hn:=Lh hn
 unfold pv at H1 ⊢
 rw[←hn] at H1 hlen ⊢
 obtain ⟨W1,W2,W3,hW1,hW2,hW3,p1,p2,p3,hb,hsz⟩:=pbox6 w 38 #[.int .i64 0,.int .i64 0,.string ⟨#[]⟩,.int .i64 0,.int .i64 0,.slice none 0 0] (.slice A n c) (.int .i64 k) (.int .i64 last) (.int .i64 0) (.int .i64 0)
 have HB:=Lh hb;have HX_p:=Lh p1;have HX_a:=Lh p2;have HX_q:=Lh p3
 have HR0:=Lh hR
 clear hc hp hp1 hn hb p1 p2 p3 hR hop
 obtain ⟨c_p0,c_p1,c_p2,c_p3,c_p4,z_p⟩:=cells5 HX_p.out
 go_enter Tryz.func46,Tryz.ntmps46
 go_upto_region 1 with fail
 rw[←hW1,←hW2,←hW3]
 clear hW1 hW2 hW3
 go_wp2_with fail
 refine (H1.out _ (HC.out.next HB.out)).mono ?_
 rintro e' w1 ⟨rfl,hb⟩
 clear c_p0 c_p1 c_p2 c_p3 c_p4 z_p
 have hgz:=hb.size
 replace HB:=bmb HB hb
 replace HX_p:=bmv HX_p hb
 replace HX_a:=bmv HX_a hb
 replace HX_q:=bmv HX_q hb
 clear hb
 obtain ⟨c_p0,c_p1,c_p2,c_p3,c_p4,z_p⟩:=cells5 HX_p.out
 obtain ⟨f_p0,f_p1,f_p2,f_p3,f_p4⟩:=frees5 HX_p.out
 obtain ⟨V1,hV1⟩:∃ V,V=w1.setCell ⟨w.heap.size,1,none⟩ (.int .i64 (k+1)):=⟨_,rfl⟩
 have hsz_V1:=bss hV1
 replace HB:=bsb hV1 HB (by omega)
 replace HX_a:=bst hV1 HX_a (by omega)
 replace HX_q:=bst hV1 HX_q (by omega)
 replace HX_p:=bsc hV1 HX_p (cs':=#[.slice A n c,.int .i64 (k+1),.int .i64 last,.int .i64 0,.int .i64 0]) (by simp)
 obtain ⟨V2,hV2⟩:∃ V,V=V1.alloc (.cells #[.int .i64 o,.int .i64 0,.string ⟨#[]⟩,.int .i64 0,.int .i64 0,.slice none 0 0] 38):=⟨_,rfl⟩
 obtain ⟨HX_r,hb⟩:=bnw hV2
 have hgz:=hb.size
 replace HB:=bmb HB hb
 replace HX_p:=bmv HX_p hb
 replace HX_a:=bmv HX_a hb
 replace HX_q:=bmv HX_q hb
 clear hb
 rw[hV1] at hV2
 clear hV1
 replace HX_r:=bat (b:=w1.heap.size) HX_r hsz_V1
 have hr1:w.heap.size+1+1 < w1.heap.size:=by omega
 have hr2:w1.heap.size < V2.heap.size:=HX_r.out.lt
 have hfew:=HC.out.few
 rw[←Hn.out] at hfew
 go_upto_block 0 with fail
 rw[←hV2]
 clear hV2
 clear c_p0 c_p1 c_p2 c_p3 c_p4 z_p f_p0 f_p1 f_p2 f_p3 f_p4
 go_cut [] from 47 to 140 (fun wx=>∃ (nn:Int) (s2:Sx.R Unit) (k2 x2 p2:Int),Hid (R=Sx.go s2 fun l=>(Sx.sign last 123 l).bind fun _ l=>(Sx.kids last (Sx.rule last kk) l.length.succ [] l).bind fun ks l=>.ok (Sx.Rule.mk o 0 [] nn 0 ks) l)∧Hid (PAt T s2 k2 x2 p2)∧Hid (Blk wx w.heap.size 64 #[.slice A n c,.int .i64 k2,.int .i64 last,.int .i64 x2,.int .i64 p2])∧Hid (Blk wx (w.heap.size+1) 38 #[.int .i64 0,.int .i64 0,.string ⟨#[]⟩,.int .i64 0,.int .i64 0,.slice none 0 0])∧Hid (Blk wx (w.heap.size+1+1) 64 #[.slice none 0 0,.int .i64 0,.int .i64 0,.int .i64 0,.int .i64 0])∧Hid (Blk wx w1.heap.size 38 #[.int .i64 o,.int .i64 0,.string ⟨#[]⟩,.int .i64 nn,.int .i64 0,.slice none 0 0])∧Hid (Below w.heap.size w wx)∧Hid (V2.heap.size≤wx.heap.size))
 case first=>
  cases q3:(o == 3) with
  | false=>
   go_wp2_with fail
   go_meet
   exact ⟨0,s1,k+1,0,0,Lh (by rw [HR0.out,q3];rfl),HP1,HX_p,HX_a,HX_q,HX_r,HB,Lh (Nat.le_refl _)⟩
  | true=>
   have HNum:=Lh (fun w' h=>pNumber T A c last 0 200 s1 (k+1) 0 0 w' h HP1.out)
   unfold PRead pv at HNum
   rw[←Hn.out] at HNum
   obtain ⟨c_p0,c_p1,c_p2,c_p3,c_p4,z_p⟩:=cells5 HX_p.out
   obtain ⟨c_r0,c_r1,c_r2,c_r3,c_r4,c_r5,z_r⟩:=cells6 HX_r.out
   go_wp2_with fail
   refine (HNum.out _ (HC.out.next HB.out)).mono ?_
   rintro e' wn ⟨m,vs,k2,x2,p2,rfl,hv,hvs,ha,hb⟩
   unfold vInts intV at hvs
   subst hvs
   simp only[List.cons_append,List.nil_append]
   have HP2:=Lh ha
   have HR1:Hid (R=Sx.go (Sx.go s1 (Sx.number last 0 200)).void fun l=>(Sx.sign last 123 l).bind fun _ l=>(Sx.kids last (Sx.rule last kk) l.length.succ [] l).bind fun ks l=>.ok (Sx.Rule.mk o 0 [] m 0 ks) l):=Lh (by rw [HR0.out,q3];exact hv.step _)
   clear hv ha HNum
   clear c_p0 c_p1 c_p2 c_p3 c_p4 z_p c_r0 c_r1 c_r2 c_r3 c_r4 c_r5 z_r
   have hgz:=hb.size
   replace HB:=bmb HB hb
   replace HX_p:=bmv HX_p hb
   replace HX_a:=bmv HX_a hb
   replace HX_q:=bmv HX_q hb
   replace HX_r:=bmv HX_r hb
   clear hb
   obtain ⟨c_p0,c_p1,c_p2,c_p3,c_p4,z_p⟩:=cells5 HX_p.out
   obtain ⟨f_p0,f_p1,f_p2,f_p3,f_p4⟩:=frees5 HX_p.out
   obtain ⟨c_r0,c_r1,c_r2,c_r3,c_r4,c_r5,z_r⟩:=cells6 HX_r.out
   obtain ⟨f_r0,f_r1,f_r2,f_r3,f_r4,f_r5⟩:=frees6 HX_r.out
   obtain ⟨V3,hV3⟩:∃ V,V=wn.setCell ⟨w1.heap.size,3,none⟩ (.int .i64 m):=⟨_,rfl⟩
   have hsz_V3:=bss hV3
   replace HB:=bsb hV3 HB (by omega)
   replace HX_p:=bst hV3 HX_p (by omega)
   replace HX_a:=bst hV3 HX_a (by omega)
   replace HX_q:=bst hV3 HX_q (by omega)
   replace HX_r:=bsc hV3 HX_r (cs':=#[.int .i64 o,.int .i64 0,.string ⟨#[]⟩,.int .i64 m,.int .i64 0,.slice none 0 0]) (by simp)
   obtain ⟨V4,hV4,hxn,hfar,hbn⟩:=pstoreB HX_p.out (.slice A n c) (.int .i64 k2) (.int .i64 last) (.int .i64 x2) (.int .i64 p2)
   replace HB:=Lh (hbn w.heap.size w HB.out (by omega))
   replace HX_a:=bfr hfar.1 HX_a (by omega)
   replace HX_q:=bfr hfar.1 HX_q (by omega)
   replace HX_r:=bfr hfar.1 HX_r (by omega)
   replace HX_p:=Lh hxn
   have hsz_V4:=hfar.2
   clear hxn hfar hbn
   rw[hV3] at hV4
   go_wp2_with fail
   rw[←hV4]
   go_meet
   exact ⟨m,_,k2,x2,p2,HR1,HP2,HX_p,HX_a,HX_q,HX_r,HB,Lh (by omega)⟩
 case rest=>
  clear HR0 HX_p HX_a HX_q HX_r HB
  obtain ⟨nn,s2,k2,x2,p2,HR1,HP2,HX_p,HX_a,HX_q,HX_r,HB,HV2⟩:=hcut
  have hv2:=HV2.out
  obtain ⟨s3,hs3⟩:∃ s3,s3=Sx.go s2 (Sx.sign last 123):=⟨_,rfl⟩
  have HR3:Hid (R=(Sx.go s3 fun l=>Sx.kids last (Sx.rule last kk) (Sx.fuel s3) [] l).bind fun ks l=>.ok (Sx.Rule.mk o 0 [] nn 0 ks) l):=Lh (by rw [HR1.out,hs3];exact Sx.body_kids _ _ (fun ks:List Sx.Rule=>Sx.Rule.mk o 0 [] nn 0 ks))
  have HSg:=Lh (fun w' h=>pSg T A c last 123 s2 k2 x2 p2 w' h HP2.out)
  unfold PPost pv at HSg
  rw[←Hn.out,←hs3] at HSg
  clear HR1 hs3
  obtain ⟨c_p0,c_p1,c_p2,c_p3,c_p4,z_p⟩:=cells5 HX_p.out
  go_wp2_with fail
  refine (HSg.out _ (HC.out.next HB.out)).mono ?_
  rintro e' w3 ⟨k3,x3,p3,rfl,ha,hb⟩
  have HP3:=Lh ha
  have hfu:Sx.fuel s3≤n+1:=by rw [Hn.out];exact ha.fuel
  clear ha HSg
  clear c_p0 c_p1 c_p2 c_p3 c_p4 z_p
  have hgz:=hb.size
  replace HB:=bmb HB hb
  replace HX_p:=bmv HX_p hb
  replace HX_a:=bmv HX_a hb
  replace HX_q:=bmv HX_q hb
  replace HX_r:=bmv HX_r hb
  clear hb
  obtain ⟨c_p0,c_p1,c_p2,c_p3,c_p4,z_p⟩:=cells5 HX_p.out
  obtain ⟨f_p0,f_p1,f_p2,f_p3,f_p4⟩:=frees5 HX_p.out
  obtain ⟨V7,hV7,hxn,hfar,hbn⟩:=pstoreB HX_p.out (.slice A n c) (.int .i64 k3) (.int .i64 last) (.int .i64 x3) (.int .i64 p3)
  replace HB:=Lh (hbn w.heap.size w HB.out (by omega))
  replace HX_a:=bfr hfar.1 HX_a (by omega)
  replace HX_q:=bfr hfar.1 HX_q (by omega)
  replace HX_r:=bfr hfar.1 HX_r (by omega)
  replace HX_p:=Lh hxn
  have hsz_V7:=hfar.2
  clear hxn hfar hbn
  go_wp2_with fail
  rw[←hV7]
  clear hV7
  clear c_p0 c_p1 c_p2 c_p3 c_p4 z_p f_p0 f_p1 f_p2 f_p3 f_p4
  have hv7:V2.heap.size≤V7.heap.size:=by omega
  obtain ⟨fu,hfu2⟩:∃ fu,fu=Sx.fuel s3:=⟨_,rfl⟩
  rw[←hfu2] at hfu
  have HFu:=Lh hfu2
  have HS3:Hid (∀ l,s3 = .ok () l→l.length+1≤fu):=Lh (fun l hl=>by rw [hfu2,hl];exact Nat.le_refl _)
  rw[←hfu2] at HR3
  clear hfu2
  go_loopg [14,15] fu (fun gk v14 v15 wr=>∃ (ks:List Sx.Rule) (css:List (List Value)) (rA:Option Addr) (rc i:Nat) (st:Sx.R Unit) (kx ex px:Int),i=ks.length∧i+gk≤n+1∧Hid (R=(Sx.go st fun l=>Sx.kids last (Sx.rule last kk) gk ks l).bind fun ks l=>.ok (Sx.Rule.mk o 0 [] nn 0 ks) l)∧Hid (PAt T st kx ex px)∧Hid (∀ l,st = .ok () l→l.length+1≤gk)∧Hid (GRow 0 V2.heap.size 38 6 RuleAt ks css (.slice rA i rc) wr)∧Hid (Blk wr w.heap.size 64 #[.slice A n c,.int .i64 kx,.int .i64 last,.int .i64 ex,.int .i64 px])∧Hid (Blk wr (w.heap.size+1) 38 #[.int .i64 0,.int .i64 0,.string ⟨#[]⟩,.int .i64 0,.int .i64 0,.slice none 0 0])∧Hid (Blk wr (w.heap.size+1+1) 64 #[.slice none 0 0,.int .i64 0,.int .i64 0,.int .i64 0,.int .i64 0])∧Hid (Blk wr w1.heap.size 38 #[.int .i64 o,.int .i64 0,.string ⟨#[]⟩,.int .i64 nn,.int .i64 0,.slice rA i rc])∧Hid (Below w.heap.size w wr)∧Hid (V2.heap.size≤wr.heap.size))
  case atStart=>exact ⟨[],[],none,0,0,s3,k3,x3,p3,rfl,by omega,HR3,HP3,HS3,Lh GRow.start,HX_p,HX_a,HX_q,HX_r,HB,Lh hv7⟩
  case round=>
   clear HR3 HP3 HS3 HX_p HX_a HX_q HX_r HB
   obtain ⟨ks,css,rA,rc,i,st,kx,ex,px,hi,hig,HR,HP,HS,HG,HX_p,HX_a,HX_q,HX_r,HB,HV7⟩:=hrel
   have hgv:=HV7.out
   have Hi:=Lh hi
   clear hi
   cases hst:st with
   | bad pq eq=>
    have hex:(ex == 0)=false:=by
     have:=HP.out
     rw[hst] at this
     obtain ⟨h1,_,h3⟩:=this
     rw[h1];simpa using h3
    have hx:(∃ p e,st = .bad p e)∨st.hits 3 [125]=true:=.inl ⟨pq,eq,hst⟩
    clear hst
    obtain ⟨c_p0,c_p1,c_p2,c_p3,c_p4,z_p⟩:=cells5 HX_p.out
    go_wp2_with fail
    clear c_p0 c_p1 c_p2 c_p3 c_p4 z_p
    have hend:=Sx.kids_end (g:=fun ks:List Sx.Rule=>Sx.Rule.mk o 0 [] nn 0 ks) HR.out HS.out hx
    have HV:=Lh hend.1
    have HSg:=Lh (pSg T A c last 125 st kx ex px wr.drew ((HC.out.next HB.out).next (Below.refl _ _).drew) HP.out)
    unfold PPost pv at HSg
    rw[←Hn.out,←hend.2] at HSg
    clear hend hx
    obtain ⟨c_p0,c_p1,c_p2,c_p3,c_p4,z_p⟩:=cells5 HX_p.out
    obtain ⟨c_r0,c_r1,c_r2,c_r3,c_r4,c_r5,z_r⟩:=cells6 HX_r.out
    go_region_law (go_simp;go_at_call 96;refine HSg.out.mono ?_;rintro e w6 ⟨k6,x6,p6,rfl,ha,hb6⟩;have hb:Below wr.heap.size wr w6:=Below.trans (Below.refl _ _).drew hb6;have HA:=Lh ha;have HB6:=Lh hb;have HXn_a:=Lh (HX_a.out.below hb HX_a.out.lt);have HXn_q:=Lh (HX_q.out.below hb HX_q.out.lt);have HXn_r:=Lh (HX_r.out.below hb HX_r.out.lt);obtain ⟨d_r0,d_r1,d_r2,d_r3,d_r4,d_r5,d_zr⟩:=cells6 HXn_r.out;obtain ⟨c_a0,c_a1,c_a2,c_a3,c_a4,c_a5,z_a⟩:=cells6 HXn_a.out;obtain ⟨f_a0,f_a1,f_a2,f_a3,f_a4,f_a5⟩:=frees6 HXn_a.out;obtain ⟨c_q0,c_q1,c_q2,c_q3,c_q4,z_q⟩:=cells5 HXn_q.out;obtain ⟨f_q0,f_q1,f_q2,f_q3,f_q4⟩:=frees5 HXn_q.out;clear ha hb6 hb)
    all_goals (try go_wp2_with fail)
    all_goals (
     have hgz:=HB6.out.size
     obtain ⟨W8,hW8,hxn,hfar,hbn⟩:=pstoreR HXn_a.out (.int .i64 o) (.int .i64 0) (.string ⟨#[]⟩) (.int .i64 nn) (.int .i64 0) (.slice rA i rc)
     have HX8:=bfr hfar.1 HXn_q (by omega)
     obtain ⟨W9,hW9,hxn9,hfar9,hbn9⟩:=pstoreB HX8.out (.slice A n c) (.int .i64 k6) (.int .i64 last) (.int .i64 x6) (.int .i64 p6)
     have hxa9:Blk W9 (w.heap.size+1) 38 #[.int .i64 o,.int .i64 0,.string ⟨#[]⟩,.int .i64 nn,.int .i64 0,.slice rA i rc]:=Eq.trans (hfar9.1 _ (by omega)) hxn
     have hbel:=hbn9 w.heap.size w (hbn w.heap.size w (HB.out.trans (HB6.out.mono HB.out.size)) (by omega)) (by omega)
     have hG9:=(HG.out.next keep_rule HB6.out).keep (w':=W9) keep_rule (by have h1:=hfar.2;have h2:=hfar9.2;omega) (fun b _ hb=>(hfar9.1 b (by omega)).trans (hfar.1 b (by omega)))
     obtain ⟨rB,rd,hvv,hrow⟩:=hG9.row keep_rule (fun _ _ _ _ h=>RuleAt.length h) (by have:=Hi.out;omega)
     have HVR:Hid (vRuleB w.heap.size W9 (.mk o 0 [] nn 0 ks) [.agg #[.int .i64 o,.int .i64 0,.string ⟨#[]⟩,.int .i64 nn,.int .i64 0,.slice rA i rc]]):=Lh ⟨[.int .i64 o,.int .i64 0,.string ⟨#[]⟩,.int .i64 nn,.int .i64 0,.slice rA i rc],rfl,by
      injection hvv with v1 v2 v3
      rw[RuleAt]
      refine ⟨rA,rc,by rw [Hi.out];rfl,by simp,by have:=Hi.out;omega,kids_row.2 fun j y hj=>?_⟩
      obtain ⟨b,o,cs,e,hS,hP,hC⟩:=hrow.at_ j y hj
      exact ⟨b,o,cs,v1.trans e,⟨by have:=hS.1;omega,hS.2⟩,RuleAt.keep (fun b hb=>⟨⟨by have:=hb.1;omega,hb.2⟩,fun _=>rfl⟩) _ _ hP,hC⟩⟩
     rw[hW8] at hW9
     rw[←hW9]
     clear hW9 hW8
     obtain ⟨t0,t1,t2,t3,t4,tz⟩:=cells5 hxn9
     obtain ⟨r0,r1,r2,r3,r4,r5,rz⟩:=cells6 hxa9
     exact bodyPost_ret (v:=.tuple #[.agg #[.int .i64 o,.int .i64 0,.string ⟨#[]⟩,.int .i64 nn,.int .i64 0,.slice rA i rc],pv A n c k6 last x6 p6]) (by simp [results,Tryz.results46,go_sem,pv,t0,t1,t2,t3,t4,r0,r1,r2,r3,r4,r5]) rfl ⟨_,[.agg #[.int .i64 o,.int .i64 0,.string ⟨#[]⟩,.int .i64 nn,.int .i64 0,.slice rA i rc]],_,_,_,rfl,HV.out,HVR.out,HA.out,hbel⟩)
   | ok uu ll=>
    have hex:ex=0:=by
     have:=HP.out
     rw[hst] at this
     exact this.1
    subst hex
    have HIs:=Lh (fun w' h=>pS T A c last ⟨#[125]⟩ st kx 0 px w' h HP.out)
    unfold pv at HIs
    rw[←Hn.out,show (⟨#[125]⟩:ByteArray).data.toList = [125] from rfl] at HIs
    cases hh:st.hits 3 [125] with
    | true=>
     rw[hh] at HIs
     have Hx:=Lh hh
     clear hh hst
     obtain ⟨c_p0,c_p1,c_p2,c_p3,c_p4,z_p⟩:=cells5 HX_p.out
     go_wp2_with fail
     refine (HIs.out _ (HC.out.next HB.out)).mono ?_
     rintro e' wz ⟨rfl,hb⟩
     clear HIs
     have hGz:=HG.out.next keep_rule hb
     have hvz:V2.heap.size≤wz.heap.size:=Nat.le_trans HV7.out hb.size
     clear HG HV7
     have HG:=Lh hGz;have HV7:=Lh hvz
     clear hGz hvz
     clear c_p0 c_p1 c_p2 c_p3 c_p4 z_p
     have hgz:=hb.size
     replace HB:=bmb HB hb
     replace HX_p:=bmv HX_p hb
     replace HX_a:=bmv HX_a hb
     replace HX_q:=bmv HX_q hb
     replace HX_r:=bmv HX_r hb
     clear hb
     obtain ⟨c_p0,c_p1,c_p2,c_p3,c_p4,z_p⟩:=cells5 HX_p.out
     go_wp2_with fail
     rename World=>wr
     have hx:(∃ p e,st = .bad p e)∨st.hits 3 [125]=true:=.inr Hx.out
     clear c_p0 c_p1 c_p2 c_p3 c_p4 z_p
     have hend:=Sx.kids_end (g:=fun ks:List Sx.Rule=>Sx.Rule.mk o 0 [] nn 0 ks) HR.out HS.out hx
     have HV:=Lh hend.1
     have HSg:=Lh (pSg T A c last 125 st kx 0 px wr.drew ((HC.out.next HB.out).next (Below.refl _ _).drew) HP.out)
     unfold PPost pv at HSg
     rw[←Hn.out,←hend.2] at HSg
     clear hend hx
     obtain ⟨c_p0,c_p1,c_p2,c_p3,c_p4,z_p⟩:=cells5 HX_p.out
     obtain ⟨c_r0,c_r1,c_r2,c_r3,c_r4,c_r5,z_r⟩:=cells6 HX_r.out
     go_region_law (go_simp;go_at_call 96;refine HSg.out.mono ?_;rintro e w6 ⟨k6,x6,p6,rfl,ha,hb6⟩;have hb:Below wr.heap.size wr w6:=Below.trans (Below.refl _ _).drew hb6;have HA:=Lh ha;have HB6:=Lh hb;have HXn_a:=Lh (HX_a.out.below hb HX_a.out.lt);have HXn_q:=Lh (HX_q.out.below hb HX_q.out.lt);have HXn_r:=Lh (HX_r.out.below hb HX_r.out.lt);obtain ⟨d_r0,d_r1,d_r2,d_r3,d_r4,d_r5,d_zr⟩:=cells6 HXn_r.out;obtain ⟨c_a0,c_a1,c_a2,c_a3,c_a4,c_a5,z_a⟩:=cells6 HXn_a.out;obtain ⟨f_a0,f_a1,f_a2,f_a3,f_a4,f_a5⟩:=frees6 HXn_a.out;obtain ⟨c_q0,c_q1,c_q2,c_q3,c_q4,z_q⟩:=cells5 HXn_q.out;obtain ⟨f_q0,f_q1,f_q2,f_q3,f_q4⟩:=frees5 HXn_q.out;clear ha hb6 hb)
     all_goals (try go_wp2_with fail)
     all_goals (
      have hgz:=HB6.out.size
      obtain ⟨W8,hW8,hxn,hfar,hbn⟩:=pstoreR HXn_a.out (.int .i64 o) (.int .i64 0) (.string ⟨#[]⟩) (.int .i64 nn) (.int .i64 0) (.slice rA i rc)
      have HX8:=bfr hfar.1 HXn_q (by omega)
      obtain ⟨W9,hW9,hxn9,hfar9,hbn9⟩:=pstoreB HX8.out (.slice A n c) (.int .i64 k6) (.int .i64 last) (.int .i64 x6) (.int .i64 p6)
      have hxa9:Blk W9 (w.heap.size+1) 38 #[.int .i64 o,.int .i64 0,.string ⟨#[]⟩,.int .i64 nn,.int .i64 0,.slice rA i rc]:=Eq.trans (hfar9.1 _ (by omega)) hxn
      have hbel:=hbn9 w.heap.size w (hbn w.heap.size w (HB.out.trans (HB6.out.mono HB.out.size)) (by omega)) (by omega)
      have hG9:=(HG.out.next keep_rule HB6.out).keep (w':=W9) keep_rule (by have h1:=hfar.2;have h2:=hfar9.2;omega) (fun b _ hb=>(hfar9.1 b (by omega)).trans (hfar.1 b (by omega)))
      obtain ⟨rB,rd,hvv,hrow⟩:=hG9.row keep_rule (fun _ _ _ _ h=>RuleAt.length h) (by have:=Hi.out;omega)
      have HVR:Hid (vRuleB w.heap.size W9 (.mk o 0 [] nn 0 ks) [.agg #[.int .i64 o,.int .i64 0,.string ⟨#[]⟩,.int .i64 nn,.int .i64 0,.slice rA i rc]]):=Lh ⟨[.int .i64 o,.int .i64 0,.string ⟨#[]⟩,.int .i64 nn,.int .i64 0,.slice rA i rc],rfl,by
       injection hvv with v1 v2 v3
       rw[RuleAt]
       refine ⟨rA,rc,by rw [Hi.out];rfl,by simp,by have:=Hi.out;omega,kids_row.2 fun j y hj=>?_⟩
       obtain ⟨b,o,cs,e,hS,hP,hC⟩:=hrow.at_ j y hj
       exact ⟨b,o,cs,v1.trans e,⟨by have:=hS.1;omega,hS.2⟩,RuleAt.keep (fun b hb=>⟨⟨by have:=hb.1;omega,hb.2⟩,fun _=>rfl⟩) _ _ hP,hC⟩⟩
      rw[hW8] at hW9
      rw[←hW9]
      clear hW9 hW8
      obtain ⟨t0,t1,t2,t3,t4,tz⟩:=cells5 hxn9
      obtain ⟨r0,r1,r2,r3,r4,r5,rz⟩:=cells6 hxa9
      exact bodyPost_ret (v:=.tuple #[.agg #[.int .i64 o,.int .i64 0,.string ⟨#[]⟩,.int .i64 nn,.int .i64 0,.slice rA i rc],pv A n c k6 last x6 p6]) (by simp [results,Tryz.results46,go_sem,pv,t0,t1,t2,t3,t4,r0,r1,r2,r3,r4,r5]) rfl ⟨_,[.agg #[.int .i64 o,.int .i64 0,.string ⟨#[]⟩,.int .i64 nn,.int .i64 0,.slice rA i rc]],_,_,_,rfl,HV.out,HVR.out,HA.out,hbel⟩)
    | false=>
     rw[hh] at HIs
     have hit0:Sx.hit 3 [125] ll=false:=by rw [hst] at hh;exact hh
     have hgk:=HS.out ll hst
     obtain ⟨g',hg'⟩:∃ g',gk=g'+1:=⟨gk - 1,by omega⟩
     obtain ⟨fl,hfl⟩:∃ fl,fl=((i:Int) == 200):=⟨_,rfl⟩
     have HR1:Hid (R=(Sx.go st fun l=>(Sx.rule last kk (if fl=true then 200 else 0) l).bind fun k l=>(Sx.sign last 59 l).bind fun _ l=>Sx.kids last (Sx.rule last kk) g' (ks++[k]) l).bind fun ks l=>.ok (Sx.Rule.mk o 0 [] nn 0 ks) l):=Lh (by
      have e1:(fun l=>(Sx.rule last kk ks.length l).bind fun k l=>(Sx.sign last 59 l).bind fun _ l=>Sx.kids last (Sx.rule last kk) g' (ks++[k]) l)=fun l=>(Sx.rule last kk (if fl=true then 200 else 0) l).bind fun k l=>(Sx.sign last 59 l).bind fun _ l=>Sx.kids last (Sx.rule last kk) g' (ks++[k]) l:=by
       funext l
       rw[Sx.rule_full last kk ks.length l,←Hi.out,←hfl]
      rw[HR.out,hst,hg',Sx.kids_go hit0,e1])
     have HLen:Hid (∀ l,Sx.go (Sx.go st (Sx.rule last kk (if fl=true then 200 else 0))).void (Sx.sign last 59) = .ok () l→l.length+1≤g'):=Lh (fun l hl=>by
      obtain ⟨m4,h4,h5⟩:=Sx.go_of_ok hl
      obtain ⟨x,hx⟩:=Sx.void_ok h4
      rw[hst] at hx
      have e1:=Sx.eats_rule last kk _ ll x m4 hx
      have e2:=Sx.eats_need last 3 [59] m4 () l h5
      omega)
     have HKid:=Lh (fun w' h=>HRec.out fl st kx 0 px w' h HP.out)
     unfold PRead pv at HKid
     rw[←Hn.out] at HKid
     rw[hfl] at HKid
     have HFl:=Lh hfl
     clear hh hst hit0 HR HP HS hfl
     obtain ⟨c_p0,c_p1,c_p2,c_p3,c_p4,z_p⟩:=cells5 HX_p.out
     go_wp2_with fail
     refine (HIs.out _ (HC.out.next HB.out)).mono ?_
     rintro e' wz ⟨rfl,hb⟩
     clear HIs
     have hGz:=HG.out.next keep_rule hb
     have hvz:V2.heap.size≤wz.heap.size:=Nat.le_trans HV7.out hb.size
     clear HG HV7
     have HG:=Lh hGz
     clear hGz
     clear c_p0 c_p1 c_p2 c_p3 c_p4 z_p
     have hgz:=hb.size
     replace HB:=bmb HB hb
     replace HX_p:=bmv HX_p hb
     replace HX_a:=bmv HX_a hb
     replace HX_q:=bmv HX_q hb
     replace HX_r:=bmv HX_r hb
     clear hb
     obtain ⟨c_p0,c_p1,c_p2,c_p3,c_p4,z_p⟩:=cells5 HX_p.out
     obtain ⟨c_r0,c_r1,c_r2,c_r3,c_r4,c_r5,z_r⟩:=cells6 HX_r.out
     go_wp2_with fail
     refine (HKid.out _ (HC.out.next HB.out)).mono ?_
     rintro e' w4 ⟨kid,vs,k4,x4,p4,rfl,hv,⟨ck,hvs,hrk⟩,ha,hb⟩
     rw[←HFl.out] at hv ha
     have HRk:=Lh hrk
     obtain ⟨i0,i1,i2,i3,i4,iA,iN,iC,rfl⟩:=form_ruleB hrk
     subst hvs
     simp only[List.cons_append,List.nil_append]
     obtain ⟨s4,hs4⟩:∃ s4,s4=(Sx.go st (Sx.rule last kk (if fl=true then 200 else 0))).void:=⟨_,rfl⟩
     rw[←hs4] at ha HLen
     have HP4:=Lh ha
     have HR5:Hid (R=(Sx.go (Sx.go s4 (Sx.sign last 59)) fun l=>Sx.kids last (Sx.rule last kk) g' (ks++[kid]) l).bind fun ks l=>.ok (Sx.Rule.mk o 0 [] nn 0 ks) l):=Lh (by rw [HR1.out,hv.step,←hs4,Sx.go_unit])
     have hGz:=HG.out.next keep_rule hb
     have hown0:=fun z hz=>own_lt (b:=z) HG.out.own hz
     have hown1:=fun z hz=>own_ge (b:=z) HG.out.own hz
     have HO0:=Lh hown0;have HO1:=Lh hown1
     clear HG
     have HG:=Lh hGz
     have hgw:=hb.size
     clear hv ha HKid hrk hs4 HR1 hGz hown0 hown1
     clear c_p0 c_p1 c_p2 c_p3 c_p4 z_p c_r0 c_r1 c_r2 c_r3 c_r4 c_r5 z_r
     have hgz:=hb.size
     replace HB:=bmb HB hb
     replace HX_p:=bmv HX_p hb
     replace HX_a:=bmv HX_a hb
     replace HX_q:=bmv HX_q hb
     replace HX_r:=bmv HX_r hb
     clear hb
     obtain ⟨V3,hV3⟩:∃ V,V=w4.alloc (.cells #[.int .i64 i0,.int .i64 i1,.string i2,.int .i64 i3,.int .i64 i4,.slice iA iN iC] 38):=⟨_,rfl⟩
     obtain ⟨HX_t,hb⟩:=bnw hV3
     have hgz:=hb.size
     replace HB:=bmb HB hb
     replace HX_p:=bmv HX_p hb
     replace HX_a:=bmv HX_a hb
     replace HX_q:=bmv HX_q hb
     replace HX_r:=bmv HX_r hb
     clear hb
     obtain ⟨V4,hV4⟩:∃ V,V=V3.alloc (.cells #[.slice A n c,.int .i64 k4,.int .i64 last,.int .i64 x4,.int .i64 p4] 64):=⟨_,rfl⟩
     obtain ⟨HX_u,hb⟩:=bnw hV4
     have hgz:=hb.size
     replace HB:=bmb HB hb
     replace HX_p:=bmv HX_p hb
     replace HX_a:=bmv HX_a hb
     replace HX_q:=bmv HX_q hb
     replace HX_r:=bmv HX_r hb
     replace HX_t:=bmv HX_t hb
     clear hb
     rw[hV3] at hV4
     have hsz3:V3.heap.size=w4.heap.size+1:=by rw [hV3];simp
     have hsz4:V4.heap.size=w4.heap.size+2:=by rw [hV4];simp
     replace HX_u:=bat (b:=w4.heap.size+1) HX_u hsz3
     have hb4:Below w4.heap.size w4 V4:=by rw [hV4];exact ((Below.refl _ _).alloc (Nat.le_refl _) _).alloc (by simp) _
     have hGz:=HG.out.next keep_rule hb4
     clear HG
     have HG:=Lh hGz
     clear hGz
     go_upto_region 37 with fail
     rw[←hV4]
     clear hV3 hV4
     obtain ⟨c_t0,c_t1,c_t2,c_t3,c_t4,c_t5,z_t⟩:=cells6 HX_t.out
     obtain ⟨c_r0,c_r1,c_r2,c_r3,c_r4,c_r5,z_r⟩:=cells6 HX_r.out
     obtain ⟨f_r0,f_r1,f_r2,f_r3,f_r4,f_r5⟩:=frees6 HX_r.out
     obtain ⟨V6,hV6⟩:∃ V,V=V4.alloc (.cells #[.int .i64 i0,.int .i64 i1,.string i2,.int .i64 i3,.int .i64 i4,.slice iA iN iC] 38):=⟨_,rfl⟩
     obtain ⟨HX_kb,hb⟩:=bnw hV6
     have hgz:=hb.size
     replace HB:=bmb HB hb
     replace HX_p:=bmv HX_p hb
     replace HX_a:=bmv HX_a hb
     replace HX_q:=bmv HX_q hb
     replace HX_r:=bmv HX_r hb
     replace HX_t:=bmv HX_t hb
     replace HX_u:=bmv HX_u hb
     clear hb
     replace HX_kb:=bat (b:=w4.heap.size+2) HX_kb hsz4
     have hsz6:V6.heap.size=w4.heap.size+3:=by rw [hV6];simp[hsz4]
     have hb46:Below V4.heap.size V4 V6:=by rw [hV6];exact (Below.refl _ _).alloc (Nat.le_refl _) _
     have hGz:=HG.out.next keep_rule hb46
     clear HG
     have HG:=Lh hGz
     have hRk6:RuleAt V6 (GS 0 V2.heap.size (.slice rA i rc) V6) kid [.int .i64 i0,.int .i64 i1,.string i2,.int .i64 i3,.int .i64 i4,.slice iA iN iC]:=RuleAt.keep (fun b hb=>⟨⟨.inr (by have:=hb.1;omega),by have:=hb.2;omega,fun e=>by have:=HO0.out b e;have:=hb.1;omega⟩,fun j=>(hb46.cell (p:=⟨b,j,none⟩) (show b < V4.heap.size by have:=hb.2;omega)).trans (hb4.cell (p:=⟨b,j,none⟩) hb.2)⟩) _ _ HRk.out
     have HRk6:=Lh hRk6
     obtain ⟨ir,hir,rz0,rz1,rz2⟩:=info_parts Tryz.infoRule
     have hlV:=HX_u.out.lt
     clear hGz hRk6 hb4 hb46 HRk
     go_upto_region 38 with (at_builtin;rw[←hV6];refine wpList_append_own_at _ rfl (.tmp 163) (.tmp 165) 36 rfl V2.heap.size 38 ir _ 6 72 Tryz.underlying36 hir rz0 rz1 rz2 rfl (by decide) (.slice rA i rc) i css.flatten rfl (by have:=HG.out.own;rwa [←Hi.out] at this) ⟨w4.heap.size+2,0,none⟩ 1 1 [.int .i64 i0,.int .i64 i1,.string i2,.int .i64 i3,.int .i64 i4,.slice iA iN iC] rfl rfl (World.news_of_block (cs:=#[.int .i64 i0,.int .i64 i1,.string i2,.int .i64 i3,.int .i64 i4,.slice iA iN iC]) (t:=38) (fr:=(0,0)) HX_kb.out) (by simp [Value.oneCell']) (by unfold maxLen;omega) (by omega) (by omega) ?_;intro v' w10 hown hgrow _ hat;obtain ⟨rB,rd,rfl,-⟩:=own_slice hown;have HG10:=Lh (HG.out.grow keep_rule HRk6.out (by rw [←Hi.out];exact hown) hgrow hat);have HBn:=Lh (Below.grown HB.out hgrow (by omega) (fun z hz=>by have:=HO1.out z hz;omega));have HXn_p:=Lh (HX_p.out.grown hgrow (fun e=>by have h1:=HO0.out _ e;have h2:=HO1.out _ e;omega));have HXn_a:=Lh (HX_a.out.grown hgrow (fun e=>by have h1:=HO0.out _ e;have h2:=HO1.out _ e;omega));have HXn_q:=Lh (HX_q.out.grown hgrow (fun e=>by have h1:=HO0.out _ e;have h2:=HO1.out _ e;omega));have HXn_r:=Lh (HX_r.out.grown hgrow (fun e=>by have h1:=HO0.out _ e;have h2:=HO1.out _ e;omega));have HXn_u:=Lh (HX_u.out.grown hgrow (fun e=>by have h1:=HO0.out _ e;have h2:=HO1.out _ e;omega));have hg10:=hgrow.size;obtain ⟨e_r0,e_r1,e_r2,e_r3,e_r4,e_r5,e_zr⟩:=cells6 HXn_r.out;obtain ⟨h_r0,h_r1,h_r2,h_r3,h_r4,h_r5⟩:=frees6 HXn_r.out;clear hown hgrow hat)
     clear HB HG HX_p HX_a HX_q HX_r HX_t HX_u HX_kb
     have HB:=HBn
     have HX_p:=HXn_p
     have HX_a:=HXn_a
     have HX_q:=HXn_q
     have HX_r:=HXn_r
     have HX_u:=HXn_u
     clear HBn HXn_p HXn_a HXn_q HXn_r HXn_u
     clear c_t0 c_t1 c_t2 c_t3 c_t4 c_t5 z_t c_r0 c_r1 c_r2 c_r3 c_r4 c_r5 z_r f_r0 f_r1 f_r2 f_r3 f_r4 f_r5
     clear e_r0 e_r1 e_r2 e_r3 e_r4 e_r5 e_zr h_r0 h_r1 h_r2 h_r3 h_r4 h_r5
     obtain ⟨V11,hV11⟩:∃ V,V=w10.setCell ⟨w1.heap.size,5,none⟩ (.slice rB (i+1) rd):=⟨_,rfl⟩
     have hsz_V11:=bss hV11
     replace HB:=bsb hV11 HB (by omega)
     replace HX_p:=bst hV11 HX_p (by omega)
     replace HX_a:=bst hV11 HX_a (by omega)
     replace HX_q:=bst hV11 HX_q (by omega)
     replace HX_u:=bst hV11 HX_u (by omega)
     replace HX_r:=bsc hV11 HX_r (cs':=#[.int .i64 o,.int .i64 0,.string ⟨#[]⟩,.int .i64 nn,.int .i64 0,.slice rB (i+1) rd]) (by simp)
     have hG11:=HG10.out.keep (w':=V11) keep_rule (by omega) (fun b _ hb=>by rw [hV11];exact Below.heap_setCell w10 ⟨w1.heap.size,5,none⟩ _ b (show b≠w1.heap.size by omega))
     have HG11:=Lh hG11
     clear hG11 HG10
     rw[←hV11]
     clear hV11
     obtain ⟨c_u0,c_u1,c_u2,c_u3,c_u4,z_u⟩:=cells5 HX_u.out
     have HSg:=Lh (pSg T A c last 59 s4 k4 x4 p4 V11 (HC.out.next HB.out) HP4.out)
     unfold PPost pv at HSg
     rw[←Hn.out] at HSg
     go_wp2_with fail
     refine HSg.out.mono ?_
     rintro e' w12 ⟨k5,x5,p5,rfl,ha,hb⟩
     have HP5:=Lh ha
     have hG12:=HG11.out.next keep_rule hb
     have HG12:=Lh hG12
     clear ha HSg hG12 HG11
     clear c_u0 c_u1 c_u2 c_u3 c_u4 z_u
     have hgz:=hb.size
     replace HB:=bmb HB hb
     replace HX_p:=bmv HX_p hb
     replace HX_a:=bmv HX_a hb
     replace HX_q:=bmv HX_q hb
     replace HX_r:=bmv HX_r hb
     replace HX_u:=bmv HX_u hb
     clear hb
     obtain ⟨c_p0,c_p1,c_p2,c_p3,c_p4,z_p⟩:=cells5 HX_p.out
     obtain ⟨f_p0,f_p1,f_p2,f_p3,f_p4⟩:=frees5 HX_p.out
     obtain ⟨VV,hVV,hvb,hvfar,hvbn⟩:=pstoreB HX_p.out (.slice A n c) (.int .i64 k5) (.int .i64 last) (.int .i64 x5) (.int .i64 p5)
     have hG13:=HG12.out.keep (w':=VV) keep_rule (Nat.le_of_eq hvfar.2.symm) (fun b _ hb=>hvfar.1 b (by omega))
     have HG13:=Lh hG13
     clear hG13
     have HXn_a:=bfr hvfar.1 HX_a (by omega)
     have HXn_q:=bfr hvfar.1 HX_q (by omega)
     have HXn_r:=bfr hvfar.1 HX_r (by omega)
     have HXn_u:=bfr hvfar.1 HX_u (by omega)
     have HXn_p:=Lh hvb
     have HBn:=Lh (hvbn w.heap.size w HB.out (Nat.le_refl _))
     have hvs:=hvfar.2
     have hv13:V2.heap.size≤VV.heap.size:=by omega
     clear hvfar hvbn hvb
     go_wp2_with fail
     rw[←hVV]
     clear hVV
     go_roundg g'
     all_goals first
      | omega
      | exact ⟨ks++[kid],_,rB,rd,i+1,Sx.go s4 (Sx.sign last 59),k5,x5,p5,by rw [Hi.out];simp,by omega,HR5,HP5,HLen,by rw [Hi.out] at HG13 ⊢;exact HG13,HXn_p,HXn_a,HXn_q,HXn_r,HBn,Lh hv13⟩
end Go.Proofs.YtjonaidancomgaaGreatDoor
