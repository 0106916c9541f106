/- Parts of the proof, joined into one text: RpRulB, SxGro, SxJnM. -/
import Derived.Test.YtjonaidancomgaaGreatDoorPRpRulA
import Derived.Test.YtjonaidancomgaaGreatDoorPSxSanP
import Derived.Test.YtjonaidancomgaaGreatDoorPSxKidW
import Derived.Test.YtjonaidancomgaaGreatDoorPSxKids
import Derived.Test.YtjonaidancomgaaGreatDoorPSxEqf
import Derived.Deep.AppendLies
import Derived.Deep.Upon

namespace Go.Proofs.YtjonaidancomgaaGreatDoor
open Go.RowKit

theorem form_ruleB {w:World} {S:Nat→Prop} {r:Sx.Rule} {cs:List Value} (h:RuleAt w S r cs):∃ i0 i1 i2 i3 i4 A n c,cs = [.int .i64 i0,.int .i64 i1,.string i2,.int .i64 i3,.int .i64 i4,.slice A n c]:=by
 cases r
 rw[RuleAt] at h
 obtain ⟨A,c,rfl,_⟩:=h
 exact ⟨_,_,_,_,_,_,_,_,rfl⟩
set_option maxRecDepth 20000 in
set_option maxHeartbeats 2000000 in
theorem pRule4 (T:List Lx.Tok) (A:Option Addr) (c:Nat) (last:Int) (lv:Int) (_hlv:¬ lv > 16) (hl2:(lv == 16)=false) (kk:Nat) (hl3:lv≤16) (hl4:0≤lv)(s s1:Sx.R Unit) (R:Sx.R Sx.Rule) (k:Int) (w:World) (hc:PCtx T A w) (hp:PAt T s k 0 0) (hp1:PAt T s1 (k+1) 0 0) (hk0:0≤k) (hk1:k≤1000000) (hop:Sx.begR s=4) (hrec:∀ (s:Sx.R Unit) (k e p:Int) (w:World),PCtx T A w→PAt T s k e p→Calls Tryz.prog 46 #[pv A T.length c k last e p,.int .i64 (lv+1),.bool false] w (PRead T A c last (vRuleB w.heap.size) (Sx.go s (Sx.rule last kk 0)) w)) (hR:R=Sx.go s1 (fun l=>(Sx.rule last kk 0 l).bind fun k l=>.ok (.mk 4 0 [] 0 0 [k]) l)) :
  Calls Tryz.prog 46 #[pv A T.length c k last 0 0,.int .i64 lv,.bool false] w (PRead T A c last (vRuleB w.heap.size) R w):=by
 have HRec:=Lh hrec;clear hrec
 have HC:=Lh hc
 have H1:=Lh (fun w' h=>pBegins T A c last s k 0 0 w' h hp)
 rw[hop] at H1
 have hlen:=hc.toks.len
 have HP1:=Lh hp1
 obtain ⟨n,hn⟩:∃ n,n=T.length:=⟨_,rfl⟩
 unfold PRead
 have Hn:=Lh hn
 unfold pv at H1 ⊢
 rw[←hn] at H1 hlen ⊢
 obtain ⟨W1,W2,W3,hW1,hW2,hW3,p1,p2,p3,hb,hsz⟩:=pbox6 w 38 #[.int .i64 0,.int .i64 0,.string ⟨#[]⟩,.int .i64 0,.int .i64 0,.slice none 0 0] (.slice A n c) (.int .i64 k) (.int .i64 last) (.int .i64 0) (.int .i64 0)
 have HB:=Lh hb;have HX_p:=Lh p1;have HX_a:=Lh p2;have HX_q:=Lh p3
 have HR0:=Lh hR
 clear hc hp hp1 hn hb p1 p2 p3 hR hop
 obtain ⟨c_p0,c_p1,c_p2,c_p3,c_p4,z_p⟩:=cells5 HX_p.out
 go_enter Tryz.func46,Tryz.ntmps46
 go_upto_region 1 with fail
 rw[←hW1,←hW2,←hW3]
 clear hW1 hW2 hW3
 go_wp2_with fail
 refine (H1.out _ (HC.out.next HB.out)).mono ?_
 rintro e' w1 ⟨rfl,hb⟩
 clear c_p0 c_p1 c_p2 c_p3 c_p4 z_p
 have hgz:=hb.size
 replace HB:=bmb HB hb
 replace HX_p:=bmv HX_p hb
 replace HX_a:=bmv HX_a hb
 replace HX_q:=bmv HX_q hb
 clear hb
 obtain ⟨c_p0,c_p1,c_p2,c_p3,c_p4,z_p⟩:=cells5 HX_p.out
 obtain ⟨f_p0,f_p1,f_p2,f_p3,f_p4⟩:=frees5 HX_p.out
 obtain ⟨V1,hV1⟩:∃ V,V=w1.setCell ⟨w.heap.size,1,none⟩ (.int .i64 (k+1)):=⟨_,rfl⟩
 have hsz_V1:=bss hV1
 replace HB:=bsb hV1 HB (by omega)
 replace HX_a:=bst hV1 HX_a (by omega)
 replace HX_q:=bst hV1 HX_q (by omega)
 replace HX_p:=bsc hV1 HX_p (cs':=#[.slice A n c,.int .i64 (k+1),.int .i64 last,.int .i64 0,.int .i64 0]) (by simp)
 obtain ⟨V2,hV2⟩:∃ V,V=V1.alloc (.cells #[.int .i64 4,.int .i64 0,.string ⟨#[]⟩,.int .i64 0,.int .i64 0,.slice none 0 0] 38):=⟨_,rfl⟩
 obtain ⟨HX_r,hb⟩:=bnw hV2
 have hgz:=hb.size
 replace HB:=bmb HB hb
 replace HX_p:=bmv HX_p hb
 replace HX_a:=bmv HX_a hb
 replace HX_q:=bmv HX_q hb
 clear hb
 rw[hV1] at hV2
 clear hV1
 replace HX_r:=bat (b:=w1.heap.size) HX_r hsz_V1
 have hr1:w.heap.size+1+1 < w1.heap.size:=by omega
 have hr2:w1.heap.size < V2.heap.size:=HX_r.out.lt
 go_upto_region 12 with fail
 rw[←hV2]
 clear hV2
 clear c_p0 c_p1 c_p2 c_p3 c_p4 z_p f_p0 f_p1 f_p2 f_p3 f_p4
 have HKid:=Lh (fun w' h=>HRec.out s1 (k+1) 0 0 w' h HP1.out)
 unfold PRead pv at HKid
 rw[←Hn.out] at HKid
 obtain ⟨c_p0,c_p1,c_p2,c_p3,c_p4,z_p⟩:=cells5 HX_p.out
 obtain ⟨c_r0,c_r1,c_r2,c_r3,c_r4,c_r5,z_r⟩:=cells6 HX_r.out
 go_wp2_with fail
 refine (HKid.out _ (HC.out.next HB.out)).mono ?_
 rintro e' w4 ⟨m,vs,k4,x4,p4,rfl,hv,⟨ck,hvs,hrk⟩,ha,hb⟩
 have Hrk0:=hrk
 obtain ⟨i0,i1,i2,i3,i4,iA,iN,iC,rfl⟩:=form_ruleB hrk
 subst hvs
 simp only[List.cons_append,List.nil_append]
 have HV:Hid (R.Val (.mk 4 0 [] 0 0 [m])):=Lh (by rw [HR0.out,←Sx.go_bind];exact hv.map (fun x:Sx.Rule=>Sx.Rule.mk 4 0 [] 0 0 [x]))
 have HA:Hid (PAt T R.void k4 x4 p4):=Lh (by rw [HR0.out,←Sx.go_bind,Sx.void_map];exact ha)
 have HRk:=Lh Hrk0
 clear hv ha HKid HR0 hrk Hrk0
 clear c_p0 c_p1 c_p2 c_p3 c_p4 z_p c_r0 c_r1 c_r2 c_r3 c_r4 c_r5 z_r
 have hgz:=hb.size
 replace HB:=bmb HB hb
 replace HX_p:=bmv HX_p hb
 replace HX_a:=bmv HX_a hb
 replace HX_q:=bmv HX_q hb
 replace HX_r:=bmv HX_r hb
 clear hb
 have HK:=kpn (V2.heap.size) w4
 obtain ⟨V3,hV3⟩:∃ V,V=w4.alloc (.cells #[.int .i64 i0,.int .i64 i1,.string i2,.int .i64 i3,.int .i64 i4,.slice iA iN iC] 38):=⟨_,rfl⟩
 obtain ⟨HX_t,hb⟩:=bnw hV3
 have hgz:=hb.size
 replace HB:=bmb HB hb
 replace HX_p:=bmv HX_p hb
 replace HX_a:=bmv HX_a hb
 replace HX_q:=bmv HX_q hb
 replace HX_r:=bmv HX_r hb
 replace HK:=kpm HK hb
 clear hb
 obtain ⟨V4,hV4⟩:∃ V,V=V3.alloc (.cells #[.slice A n c,.int .i64 k4,.int .i64 last,.int .i64 x4,.int .i64 p4] 64):=⟨_,rfl⟩
 obtain ⟨HX_u,hb⟩:=bnw hV4
 have hgz:=hb.size
 replace HB:=bmb HB hb
 replace HX_p:=bmv HX_p hb
 replace HX_a:=bmv HX_a hb
 replace HX_q:=bmv HX_q hb
 replace HX_r:=bmv HX_r hb
 replace HX_t:=bmv HX_t hb
 replace HK:=kpm HK hb
 clear hb
 rw[hV3] at hV4
 have hsz3:V3.heap.size=w4.heap.size+1:=by rw [hV3];simp
 replace HX_u:=bat (b:=w4.heap.size+1) HX_u hsz3
 have hsz4:V4.heap.size=w4.heap.size+2:=by rw [hV4];simp
 go_upto_region 13 with fail
 rw[←hV4]
 clear hV3 hV4
 obtain ⟨c_t0,c_t1,c_t2,c_t3,c_t4,c_t5,z_t⟩:=cells6 HX_t.out
 obtain ⟨c_r0,c_r1,c_r2,c_r3,c_r4,c_r5,z_r⟩:=cells6 HX_r.out
 obtain ⟨f_r0,f_r1,f_r2,f_r3,f_r4,f_r5⟩:=frees6 HX_r.out
 obtain ⟨V5,hV5⟩:∃ V,V=V4.alloc (.cells #[.int .i64 i0,.int .i64 i1,.string i2,.int .i64 i3,.int .i64 i4,.slice iA iN iC] 38):=⟨_,rfl⟩
 obtain ⟨HX_kb,hb⟩:=bnw hV5
 have hgz:=hb.size
 replace HB:=bmb HB hb
 replace HX_p:=bmv HX_p hb
 replace HX_a:=bmv HX_a hb
 replace HX_q:=bmv HX_q hb
 replace HX_r:=bmv HX_r hb
 replace HX_t:=bmv HX_t hb
 replace HX_u:=bmv HX_u hb
 replace HK:=kpm HK hb
 clear hb
 replace HX_kb:=bat (b:=w4.heap.size+2) HX_kb hsz4
 have fw5:(V4.alloc (.cells #[.int .i64 i0,.int .i64 i1,.string i2,.int .i64 i3,.int .i64 i4,.slice iA iN iC] 38)).frozen? ⟨w1.heap.size,5,none⟩=false:=by rw [←hV5];exact HX_r.out.free 5
 have cw5:(V4.alloc (.cells #[.int .i64 i0,.int .i64 i1,.string i2,.int .i64 i3,.int .i64 i4,.slice iA iN iC] 38)).cell? ⟨w1.heap.size,5,none⟩=some (.slice none 0 0):=by rw [←hV5];exact (HX_r.out.cell 5).trans rfl
 obtain ⟨V6,hV6⟩:∃ V,V=V5.setCell ⟨w1.heap.size,5,none⟩ (.slice (some ⟨w4.heap.size+2,0,none⟩) 1 1):=⟨_,rfl⟩
 have hsz_V6:=bss hV6
 replace HB:=bsb hV6 HB (by omega)
 replace HX_p:=bst hV6 HX_p (by omega)
 replace HX_a:=bst hV6 HX_a (by omega)
 replace HX_q:=bst hV6 HX_q (by omega)
 replace HX_t:=bst hV6 HX_t (by omega)
 replace HX_u:=bst hV6 HX_u (by omega)
 replace HX_kb:=bst hV6 HX_kb (by omega)
 replace HK:=kps hV6 HK (by omega)
 replace HX_r:=bsc hV6 HX_r (cs':=#[.int .i64 4,.int .i64 0,.string ⟨#[]⟩,.int .i64 0,.int .i64 0,.slice (some ⟨w4.heap.size+2,0,none⟩) 1 1]) (by simp)
 rw[hV5] at hV6
 go_upto_region 14 with fail
 rw[←hV6]
 clear hV5 hV6
 clear c_t0 c_t1 c_t2 c_t3 c_t4 c_t5 z_t c_r0 c_r1 c_r2 c_r3 c_r4 c_r5 z_r f_r0 f_r1 f_r2 f_r3 f_r4 f_r5
 obtain ⟨c_r0,c_r1,c_r2,c_r3,c_r4,c_r5,z_r⟩:=cells6 HX_r.out
 obtain ⟨c_u0,c_u1,c_u2,c_u3,c_u4,z_u⟩:=cells5 HX_u.out
 obtain ⟨c_a0,c_a1,c_a2,c_a3,c_a4,c_a5,z_a⟩:=cells6 HX_a.out
 obtain ⟨f_a0,f_a1,f_a2,f_a3,f_a4,f_a5⟩:=frees6 HX_a.out
 obtain ⟨c_q0,c_q1,c_q2,c_q3,c_q4,z_q⟩:=cells5 HX_q.out
 obtain ⟨f_q0,f_q1,f_q2,f_q3,f_q4⟩:=frees5 HX_q.out
 obtain ⟨W8,hW8,hxn,hfar,hbn⟩:=pstoreR HX_a.out (.int .i64 4) (.int .i64 0) (.string ⟨#[]⟩) (.int .i64 0) (.int .i64 0) (.slice (some ⟨w4.heap.size+2,0,none⟩) 1 1)
 replace HB:=Lh (hbn w.heap.size w HB.out (by omega))
 replace HX_p:=bfr hfar.1 HX_p (by omega)
 replace HX_q:=bfr hfar.1 HX_q (by omega)
 replace HX_r:=bfr hfar.1 HX_r (by omega)
 replace HX_t:=bfr hfar.1 HX_t (by omega)
 replace HX_u:=bfr hfar.1 HX_u (by omega)
 replace HX_kb:=bfr hfar.1 HX_kb (by omega)
 replace HX_a:=Lh hxn
 replace HK:=kpf hfar.1 hfar.2 HK (by omega)
 have hsz_W8:=hfar.2
 clear hxn hfar hbn
 obtain ⟨W9,hW9,hxn,hfar,hbn⟩:=pstoreB HX_q.out (.slice A n c) (.int .i64 k4) (.int .i64 last) (.int .i64 x4) (.int .i64 p4)
 replace HB:=Lh (hbn w.heap.size w HB.out (by omega))
 replace HX_p:=bfr hfar.1 HX_p (by omega)
 replace HX_a:=bfr hfar.1 HX_a (by omega)
 replace HX_r:=bfr hfar.1 HX_r (by omega)
 replace HX_t:=bfr hfar.1 HX_t (by omega)
 replace HX_u:=bfr hfar.1 HX_u (by omega)
 replace HX_kb:=bfr hfar.1 HX_kb (by omega)
 replace HX_q:=Lh hxn
 replace HK:=kpf hfar.1 hfar.2 HK (by omega)
 have hsz_W9:=hfar.2
 clear hxn hfar hbn
 rw[hW8] at hW9
 go_region
 rw[←hW9]
 clear hW9 hW8
 clear c_r0 c_r1 c_r2 c_r3 c_r4 c_r5 z_r c_u0 c_u1 c_u2 c_u3 c_u4 z_u c_a0 c_a1 c_a2 c_a3 c_a4 c_a5 z_a f_a0 f_a1 f_a2 f_a3 f_a4 f_a5 c_q0 c_q1 c_q2 c_q3 c_q4 z_q f_q0 f_q1 f_q2 f_q3 f_q4
 obtain ⟨c_a0,c_a1,c_a2,c_a3,c_a4,c_a5,z_a⟩:=cells6 HX_a.out
 obtain ⟨c_q0,c_q1,c_q2,c_q3,c_q4,z_q⟩:=cells5 HX_q.out
 have HVR:Hid (vRuleB w.heap.size W9.drew (.mk 4 0 [] 0 0 [m]) [.agg #[.int .i64 4,.int .i64 0,.string ⟨#[]⟩,.int .i64 0,.int .i64 0,.slice (some ⟨w4.heap.size+2,0,none⟩) 1 1]]):=Lh ⟨[.int .i64 4,.int .i64 0,.string ⟨#[]⟩,.int .i64 0,.int .i64 0,.slice (some ⟨w4.heap.size+2,0,none⟩) 1 1],rfl,by
  rw[RuleAt]
  refine ⟨_,1,rfl,by simp,by simp,?_⟩
  rw[KidsAt,KidsAt]
  have hzb:=HB.out.size
  have hkl:=HX_kb.out.lt
  refine ⟨⟨_,0,[.int .i64 i0,.int .i64 i1,.string i2,.int .i64 i3,.int .i64 i4,.slice iA iN iC],rfl,⟨by omega,hkl⟩,RuleAt.keep (w':=W9.drew) (S':=fun b=>w.heap.size≤b∧b < W9.drew.heap.size) (fun b hb=>⟨⟨by have:=hb.1;omega,Nat.lt_of_lt_of_le hb.2 HK.out.1⟩,fun j=>World.cell?_of_block (w':=W9.drew) (a:=⟨b,j,none⟩) (HK.out.2 b hb.1 hb.2)⟩) _ _ HRk.out,fun j v hj=>?_⟩,trivial⟩
  have e:0+0*6+j=j:=by omega
  rw[e]
  exact (HX_kb.out.cell j).trans (by simpa using hj)⟩
 go_wp2_with fail
 exact bodyPost_ret (v:=.tuple #[.agg #[.int .i64 4,.int .i64 0,.string ⟨#[]⟩,.int .i64 0,.int .i64 0,.slice (some ⟨w4.heap.size+2,0,none⟩) 1 1],pv A n c k4 last x4 p4]) (by simp [results,Tryz.results46,go_sem,pv,c_a0,c_a1,c_a2,c_a3,c_a4,c_a5,c_q0,c_q1,c_q2,c_q3,c_q4]) rfl ⟨_,[.agg #[.int .i64 4,.int .i64 0,.string ⟨#[]⟩,.int .i64 0,.int .i64 0,.slice (some ⟨w4.heap.size+2,0,none⟩) 1 1]],_,_,_,rfl,HV.out,HVR.out,HA.out,HB.out.drew⟩
end Go.Proofs.YtjonaidancomgaaGreatDoor

namespace Go.Proofs.YtjonaidancomgaaGreatDoor
open Go.RowKit

def GS (lo base:Nat) (v:Value) (w:World) (b:Nat):Prop:=(b < lo∨base≤b)∧b < w.heap.size∧v.ownBlock≠some b
structure GRow {α : Type} (lo base : Nat) (T : TypeId) (sz : Nat) (P : World → (Nat → Prop) → α → List Value → Prop) (xs : List α) (css : List (List Value)) (v : Value) (w : World) : Prop where
 own:w.ownsRow base T sz v xs.length css.flatten
 len:css.length=xs.length
 el:∀ (i:Nat) x cs,xs[i]?=some x→css[i]?=some cs→P w (GS lo base v w) x cs
def KeepP {α:Type} (P:World→(Nat→Prop)→α→List Value→Prop):Prop:=
 ∀ (w w':World) (S S':Nat→Prop) (x:α) (cs:List Value),(∀ b,S b→S' b∧∀ i,w'.cell? ⟨b,i,none⟩=w.cell? ⟨b,i,none⟩)→P w S x cs→P w' S' x cs
section
variable {α : Type} {lo base sz : Nat} {T : TypeId} {P : World → (Nat → Prop) → α → List Value → Prop} {xs : List α} {css : List (List Value)} {v : Value} {w w' : World}
theorem GRow.start:GRow lo base T sz P [] [] (.slice none 0 0) w:=⟨World.ownsRow_nil _ _ _ _,rfl,fun i x cs h _=>by simp at h⟩
theorem GRow.keep (hK:KeepP P) (h:GRow lo base T sz P xs css v w) (hs:w.heap.size≤w'.heap.size) (hk:∀ k,k < w.heap.size→k < lo∨base≤k→w'.heap[k]?=w.heap[k]?):GRow lo base T sz P xs css v w':=by
 refine ⟨?_,h.len,fun i x cs h1 h2=>hK w w' _ _ x cs (fun b hb=>⟨⟨hb.1,Nat.lt_of_lt_of_le hb.2.1 hs,hb.2.2⟩,fun j=>World.cell?_of_block (a:=⟨b,j,none⟩) (hk b hb.2.1 hb.1)⟩) (h.el i x cs h1 h2)⟩
 have hge:=fun z (hz:v.ownBlock=some z)=>own_ge h.own hz
 have hlt:=fun z (hz:v.ownBlock=some z)=>own_lt h.own hz
 obtain ⟨p1,p2⟩:=h.own
 refine ⟨p1,?_⟩
 rcases p2 with p2 | ⟨z,cap,cur,hv,hg,hh,r⟩
 ·exact .inl p2
 ·have hz:v.ownBlock=some z:=by rw [hv];rfl
  exact .inr ⟨z,cap,cur,hv,hg,(hk z (hlt z hz) (.inr (hge z hz))).trans hh,r⟩
theorem GRow.next (hK:KeepP P) (h:GRow lo base T sz P xs css v w) (hb:Below w.heap.size w w'):GRow lo base T sz P xs css v w':=
 h.keep hK hb.size fun k hk _=>hb.block k hk
theorem GRow.grow {x:α} {cs:List Value} {v':Value} (hK:KeepP P) (h:GRow lo base T sz P xs css v w) (hx:P w (GS lo base v w) x cs) (hown:w'.ownsRow base T sz v' (xs.length+1) (css.flatten++cs)) (hg:w.grownBy w' v.ownBlock) (hat:v'.ownBlock=v.ownBlock∨v'.ownBlock=some w.heap.size) :
  GRow lo base T sz P (xs++[x]) (css++[cs]) v' w':=by
 have hS:∀ b,GS lo base v w b→GS lo base v' w' b∧∀ i,w'.cell? ⟨b,i,none⟩=w.cell? ⟨b,i,none⟩:=fun b hb=>by
  refine ⟨⟨hb.1,Nat.lt_of_lt_of_le hb.2.1 hg.size,fun e=>?_⟩,fun j=>World.cell?_of_block (a:=⟨b,j,none⟩) (hg.block b hb.2.1 (fun e=>hb.2.2 e.symm))⟩
  rcases hat with q | q
  ·exact hb.2.2 (q.symm.trans e)
  ·rw[q] at e
   have:=hb.2.1
   injection e with e
   omega
 refine ⟨by simpa using hown,by simp [h.len],fun i y ds h1 h2=>?_⟩
 by_cases hi:i < xs.length
 ·rw[List.getElem?_append_left hi] at h1
  rw[List.getElem?_append_left (by rw [h.len];exact hi)] at h2
  exact hK w w' _ _ y ds hS (h.el i y ds h1 h2)
 ·have h3:=(List.getElem?_eq_some_iff.1 h1).1
  have h4:i=xs.length:=by simp at h3;omega
  subst h4
  have h5:css.length=xs.length:=h.len
  rw[←h5] at h2
  simp at h1 h2
  subst h1;subst h2
  exact hK w w' _ _ x cs hS hx
theorem GRow.row (hK:KeepP P) (hsz:∀ w S x cs,P w S x cs→cs.length=sz) (h:GRow lo base T sz P xs css v w) (hl:xs.length≤140737488351232) :
  ∃ A c,v = .slice A xs.length c∧Row w (fun b=>(b < lo∨base≤b)∧b < w.heap.size) A sz (P w fun b=>(b < lo∨base≤b)∧b < w.heap.size) xs:=
 own_row (P:=P w fun b=>(b < lo∨base≤b)∧b < w.heap.size) (S:=fun b=>(b < lo∨base≤b)∧b < w.heap.size) h.own h.len rfl (fun cs hcs=>by
  obtain ⟨i,hi⟩:=List.mem_iff_getElem?.1 hcs
  have hl:=(List.getElem?_eq_some_iff.1 hi).1
  have:=h.len
  exact hsz _ _ _ cs (h.el i (xs[i]'(by omega)) cs (List.getElem?_eq_getElem _) hi)) (fun i x cs h1 h2=>hK w w _ _ x cs (fun b hb=>⟨⟨hb.1,hb.2.1⟩,fun _=>rfl⟩) (h.el i x cs h1 h2)) (fun z hz=>⟨.inr (own_ge h.own hz),own_lt h.own hz⟩) hl
end
theorem keep_req:KeepP ReqAt:=fun _ _ _ _ _ _ hS h=>ReqAt.keep hS h
theorem keep_rule:KeepP RuleAt:=fun _ _ _ _ x cs hS h=>RuleAt.keep hS x cs h
theorem keep_int:KeepP (fun _ _=>OneAt intV):=fun _ _ _ _ _ _ _ h=>h
end Go.Proofs.YtjonaidancomgaaGreatDoor

namespace Go.Proofs.YtjonaidancomgaaGreatDoor
open Go.RowKit

theorem CellsAt.app {w:World} {b o:Nat} {cs ds:List Value} (h:CellsAt w b o cs) (k:CellsAt w b (o+cs.length) ds):CellsAt w b o (cs++ds):=fun j v hj=>by
 by_cases hl:j < cs.length
 ·rw[List.getElem?_append_left hl] at hj
  exact h j v hj
 ·rw[List.getElem?_append_right (by omega)] at hj
  have:=k (j - cs.length) v hj
  rw[show o+cs.length+(j - cs.length)=o+j by omega] at this
  exact this
theorem flat_from {α:Type} {w:World} {b o sz:Nat} {P:α→List Value→Prop} (hsz:∀ x cs,P x cs→cs.length=sz):∀ (l:List α) (k:Nat),(∀ i x,l[i]?=some x→∃ cs,P x cs∧CellsAt w b (o+(k+i)*sz) cs)→
  ∃ rs:List (List Value),rs.length=l.length∧(∀ (i:Nat) x cs,l[i]?=some x→rs[i]?=some cs→P x cs)∧CellsAt w b (o+k*sz) rs.flatten
 | [],k,_=>⟨[],rfl,fun i x cs h=>by simp at h,fun j v h=>by simp at h⟩
 | x::l,k,h=>by
  obtain ⟨cs,hP,hc⟩:=h 0 x rfl
  obtain ⟨rs,h1,h2,h3⟩:=flat_from hsz l (k+1) (fun i y hi=>by
   have:=h (i+1) y (by simpa using hi)
   rwa [show k+(i+1)=k+1+i by omega] at this)
  refine ⟨cs::rs,by simp [h1],fun i y ds hi hd=>?_,?_⟩
  ·cases i with
   | zero=>
    simp at hi hd
    subst hi;subst hd
    exact hP
   | succ i=>exact h2 i y ds (by simpa using hi) (by simpa using hd)
  ·rw[List.flatten_cons]
   refine CellsAt.app (by simpa using hc) ?_
   rw[hsz x cs hP,show o+k*sz+sz=o+(k+1)*sz by rw [Nat.add_mul];omega]
   exact h3
theorem Row.flat {α:Type} {w:World} {S:Nat→Prop} {A:Option Addr} {sz:Nat} {P:α→List Value→Prop} {l:List α} (h:Row w S A sz P l) (hsz:∀ x cs,P x cs→cs.length=sz) :
  ∃ rs:List (List Value),rs.length=l.length∧(∀ (i:Nat) x cs,l[i]?=some x→rs[i]?=some cs→P x cs)∧(l = []∨∃ b o,A=some ⟨b,o,none⟩∧S b∧CellsAt w b o rs.flatten):=by
 cases l with
 | nil=>exact ⟨[],rfl,fun i x cs h=>by simp at h,.inl rfl⟩
 | cons x l=>
  obtain ⟨b,o,cs0,rfl,hS,_⟩:=h.at_ 0 x rfl
  obtain ⟨rs,h1,h2,h3⟩:=flat_from (w:=w) (b:=b) (o:=o) hsz (x::l) 0 (fun i y hi=>by
   obtain ⟨b',o',cs,e,_,hP,hc⟩:=h.at_ i y hi
   injection e with e
   injection e with e1 e2
   subst e1;subst e2
   exact ⟨cs,hP,by simpa using hc⟩)
  exact ⟨rs,h1,h2,.inr ⟨b,o,rfl,hS,by simpa using h3⟩⟩
theorem own_slice {w:World} {base sz n:Nat} {e:TypeId} {v:Value} {xs:List Value} (h:w.ownsRow base e sz v n xs):∃ A c,v = .slice A n c∧n≤c:=by
 rcases h.2 with ⟨rfl,h0⟩ | ⟨g,cap,cur,rfl,_,_,hc,_⟩
 ·exact ⟨none,0,by rw [h0],by omega⟩
 ·exact ⟨_,cap,rfl,hc⟩
end Go.Proofs.YtjonaidancomgaaGreatDoor
