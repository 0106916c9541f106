/- Parts of the proof, joined into one text: SxBck, LxCard, LxOpen, SxCard. -/
import Derived.Test.YtjonaidancomgaaGreatDoorBSxVal
import Derived.Test.YtjonaidancomgaaGreatDoorBSxRok
import Derived.Test.YtjonaidancomgaaGreatDoorBSxFewW
import Derived.Test.YtjonaidancomgaaGreatDoorBSxUnR
import Derived.Test.YtjonaidancomgaaGreatDoorCards
import Derived.Test.YtjonaidancomgaaGreatDoorTie
import Derived.Test.YtjonaidancomgaaGreatDoorBShelf
import Derived.WalkKit
import Derived.ProofKit
import Derived.LaidMore
import Derived.OpenShut
import Derived.Below
import Derived.ChangeSame
import Derived.Stop.Joined
import Derived.Stop.LaidErr
import Derived.Lib.LaidTab
import Derived.Deep.DeepHandedRow
import Derived.Deep.DeepWitnessRowRef
import Derived.Deep.Slices
import Derived.Deep.Fields
import Derived.Test.YtjonaidancomgaaGreatDoorBSxParB
import Derived.SliceStrings

namespace Go.Proofs.YtjonaidancomgaaGreatDoor
open Go.RowKit

set_option maxRecDepth 20000 in
set_option maxHeartbeats 4000000 in
theorem sPrintBad (x:Sx.Cat) (cs:List Value) (w:World) (hat:CatAt w (Old w) x cs) (hk:Sx.catOk x=false):Calls Tryz.prog 20 #[.agg cs.toArray] w (SrcPost [] 100 w):=by
 obtain ⟨W,hW⟩:∃ W,W=w.alloc (.cells cs.toArray 30):=⟨_,rfl⟩
 have hbw:Below w.heap.size w W:=by rw [hW];exact (Below.refl _ _).alloc (Nat.le_refl _) _
 have hbx:Blk W w.heap.size 30 cs.toArray:=by rw [hW];exact Blk.new _ _ _
 have K:=Lh (okCat x cs W (CatAt.keep (old_keep hbw) hat))
 rw[hk] at K
 obtain ⟨a0,m0,e0,a1,m1,e1,a2,m2,e2,a3,m3,e3,a4,m4,e4,a5,m5,e5,a6,m6,e6,rfl⟩:=cat_seven hat
 have HB:=Lh hbw
 obtain ⟨x0,x1,x2,x3,x4,x5,x6,xz⟩:=cells7 hbx
 clear hat hk hbw hbx
 go_enter Tryz.func20,Tryz.ntmps20
 go_upto_region 1 with fail
 rw[←hW]
 clear hW
 go_wp2_with fail
 refine K.out.mono ?_
 rintro e w1 ⟨rfl,hb⟩
 have HB1:=Lh (HB.out.trans (hb.mono HB.out.size))
 clear hb
 go_wp2_with fail
 go_ret2
 exact ⟨rfl,HB1.out⟩
theorem pstR {w:World} {b:Nat} {t:TypeId} {z0 z1 z2 z3 z4 z5:Value} (h:Blk w b t #[z0,z1,z2,z3,z4,z5]) (a0 a1 a2 a3 a4 a5:Value):∃ W:World,W=(((((w.setCell ⟨b,0,none⟩ a0).setCell ⟨b,1,none⟩ a1).setCell ⟨b,2,none⟩ a2).setCell ⟨b,3,none⟩ a3).setCell ⟨b,4,none⟩ a4).setCell ⟨b,5,none⟩ a5∧Blk W b t #[a0,a1,a2,a3,a4,a5]∧((∀ k,k≠b→W.heap[k]?=w.heap[k]?)∧W.heap.size=w.heap.size)∧∀ (B:Nat) (w0:World),Below B w0 w→B≤b→Below B w0 W:=by
 refine ⟨_,rfl,?_,⟨fun k hk=>?_,by simp [World.setCell]⟩,fun B w0 hb hB=>(((((hb.setCell (p:=⟨b,0,none⟩) hB a0).setCell (p:=⟨b,1,none⟩) hB a1).setCell (p:=⟨b,2,none⟩) hB a2).setCell (p:=⟨b,3,none⟩) hB a3).setCell (p:=⟨b,4,none⟩) hB a4).setCell (p:=⟨b,5,none⟩) hB a5⟩
 ·have:=(((((h.set 0 a0).set 1 a1).set 2 a2).set 3 a3).set 4 a4).set 5 a5
  simpa using this
 ·rw[Below.heap_setCell _ ⟨b,5,none⟩ _ k hk,Below.heap_setCell _ ⟨b,4,none⟩ _ k hk,Below.heap_setCell _ ⟨b,3,none⟩ _ k hk,Below.heap_setCell _ ⟨b,2,none⟩ _ k hk,Below.heap_setCell _ ⟨b,1,none⟩ _ k hk,Below.heap_setCell _ ⟨b,0,none⟩ _ k hk]
set_option maxRecDepth 20000 in
set_option maxHeartbeats 4000000 in
theorem rUnR (r:Sx.Rule) (hk:Sx.ruleOk 16 r=true) (cs:List Value) (w:World) (h:RuleAt w (Old w) r cs):Calls Tryz.prog 26 #[.agg cs.toArray] w fun e w'=>Below w.heap.size w w'∧∃ cs,e = .returned (.agg (List.toArray cs))∧RuleAt w' (Old w') r.un cs:=by
 obtain ⟨q0,q1,q2,q3,q4,qA,qn,qc,rfl⟩:=form_rule h
 obtain ⟨W,hW⟩:∃ W,W=(w.alloc (.cells #[.int .i64 q0,.int .i64 q1,.string q2,.int .i64 q3,.int .i64 q4,.slice qA qn qc] 38)).alloc (.cells #[.int .i64 0,.int .i64 0,.string ⟨#[]⟩,.int .i64 0,.int .i64 0,.slice none 0 0] 38):=⟨_,rfl⟩
 have hbw:Below w.heap.size w W:=by rw [hW];exact ((Below.refl _ _).alloc (Nat.le_refl _) _).alloc (by simp) _
 have e0:Blk W w.heap.size 38 #[.int .i64 q0,.int .i64 q1,.string q2,.int .i64 q3,.int .i64 q4,.slice qA qn qc]:=by rw [hW];exact (Blk.new _ _ _).alloc _
 have e1:Blk W (w.heap.size+1) 38 #[.int .i64 0,.int .i64 0,.string ⟨#[]⟩,.int .i64 0,.int .i64 0,.slice none 0 0]:=by rw [hW];exact Blk.new_at _ _ (by simp)
 have K:=Lh (lUnR 16 r hk _ W (old_rule hbw h))
 have HB:=Lh hbw;have HE1:=Lh e1
 obtain ⟨x0,x1,x2,x3,x4,x5,xz⟩:=cells6 e0
 have yz:=e1.lt
 clear h hk hbw e0 e1
 go_enter Tryz.func26,Tryz.ntmps26
 go_upto_region 1 with fail
 rw[←hW]
 clear hW
 go_wp2_with fail
 refine K.out.mono ?_
 rintro e w1 ⟨hb,cs,rfl,hr⟩
 obtain ⟨j0,j1,j2,j3,j4,jA,jn,jc,rfl⟩:=form_rule hr
 have HR:=Lh hr
 have HB1:=Lh hb
 have P:=HE1.out.below hb yz
 obtain ⟨f0,f1,f2,f3,f4,f5⟩:=frees6 P
 obtain ⟨W2,hW2,hx2,hfar,hbn⟩:=pstR P (.int .i64 j0) (.int .i64 j1) (.string j2) (.int .i64 j3) (.int .i64 j4) (.slice jA jn jc)
 have X2:=Lh hx2;have HF:=Lh hfar;have HN:=Lh hbn
 obtain ⟨y0,y1,y2,y3,y4,y5,yy⟩:=cells6 P
 clear hb hr P hx2 hfar hbn x0 x1 x2 x3 x4 x5
 go_wp2_with fail
 rw[←hW2]
 clear hW2 y0 y1 y2 y3 y4 y5
 obtain ⟨y0,y1,y2,y3,y4,y5,yy⟩:=cells6 X2.out
 exact bodyPost_ret (v:=.agg #[.int .i64 j0,.int .i64 j1,.string j2,.int .i64 j3,.int .i64 j4,.slice jA jn jc]) (by simp [results,Tryz.results26,go_sem,y0,y1,y2,y3,y4,y5]) rfl ⟨HN.out _ _ (HB.out.trans (HB1.out.mono HB.out.size)) (by omega),[.int .i64 j0,.int .i64 j1,.string j2,.int .i64 j3,.int .i64 j4,.slice jA jn jc],rfl,RuleAt.keep (fun b hb=>⟨by show b < W2.heap.size;rw[HF.out.2];exact hb.2,fun j=>World.cell?_of_block (a:=⟨b,j,none⟩) (HF.out.1 b (by have:=hb.1;omega))⟩) _ _ HR.out⟩
set_option maxRecDepth 20000 in
set_option maxHeartbeats 16000000 in
theorem sBack (N:Nat) (c:Sx.Cat) (r:Sx.Rule) (cs rs:List Value) (w:World) (he:EnvS N w) (hc:CatAt w (Old w) c cs) (hr:RuleAt w (Old w) r rs):Calls Tryz.prog 6 #[.agg cs.toArray,.agg rs.toArray] w (TruePost w):=by
 obtain ⟨iA0,in0,ic0,iA1,in1,ic1,iA2,in2,ic2,iA3,in3,ic3,iA4,in4,ic4,iA5,in5,ic5,iA6,in6,ic6,rfl⟩:=cat_seven hc
 obtain ⟨r0,r1,r2,r3,r4,rA,rn,rc,rfl⟩:=form_rule hr
 obtain ⟨W,hW⟩:∃ W,W=(w.alloc (.cells #[.slice iA0 in0 ic0,.slice iA1 in1 ic1,.slice iA2 in2 ic2,.slice iA3 in3 ic3,.slice iA4 in4 ic4,.slice iA5 in5 ic5,.slice iA6 in6 ic6] 30)).alloc (.cells #[.int .i64 r0,.int .i64 r1,.string r2,.int .i64 r3,.int .i64 r4,.slice rA rn rc] 38):=⟨_,rfl⟩
 have hbw:Below w.heap.size w W:=by rw [hW];exact ((Below.refl _ _).alloc (Nat.le_refl _) _).alloc (by simp) _
 have e0:Blk W w.heap.size 30 #[.slice iA0 in0 ic0,.slice iA1 in1 ic1,.slice iA2 in2 ic2,.slice iA3 in3 ic3,.slice iA4 in4 ic4,.slice iA5 in5 ic5,.slice iA6 in6 ic6]:=by rw [hW];exact (Blk.new _ _ _).alloc _
 have e1:Blk W (w.heap.size+1) 38 #[.int .i64 r0,.int .i64 r1,.string r2,.int .i64 r3,.int .i64 r4,.slice rA rn rc]:=by rw [hW];exact Blk.new_at _ _ (by simp)
 have C0:=Lh (CatAt.keep (old_keep hbw) hc);have R0:=Lh (old_rule hbw hr);have E0:=Lh (he.next hbw)
 have BW:=Lh hbw;have HP:=Lh e0;have HQ:=Lh e1
 have pz:=e0.lt
 have qz:=e1.lt
 have Hcat:Hid (∀ w':World,Below W.heap.size W w'→w'.cell? ⟨w.heap.size,0,none⟩=some (.slice iA0 in0 ic0)∧w'.cell? ⟨w.heap.size,1,none⟩=some (.slice iA1 in1 ic1)∧w'.cell? ⟨w.heap.size,2,none⟩=some (.slice iA2 in2 ic2)∧w'.cell? ⟨w.heap.size,3,none⟩=some (.slice iA3 in3 ic3)∧w'.cell? ⟨w.heap.size,4,none⟩=some (.slice iA4 in4 ic4)∧w'.cell? ⟨w.heap.size,5,none⟩=some (.slice iA5 in5 ic5)∧w'.cell? ⟨w.heap.size,6,none⟩=some (.slice iA6 in6 ic6)):=Lh (fun w' hb=>by
  obtain ⟨x0,x1,x2,x3,x4,x5,x6,_⟩:=cells7 (HP.out.below hb HP.out.lt)
  exact ⟨x0,x1,x2,x3,x4,x5,x6⟩)
 have Hrul:Hid (∀ w':World,Below W.heap.size W w'→w'.cell? ⟨w.heap.size+1,0,none⟩=some (.int .i64 r0)∧w'.cell? ⟨w.heap.size+1,1,none⟩=some (.int .i64 r1)∧w'.cell? ⟨w.heap.size+1,2,none⟩=some (.string r2)∧w'.cell? ⟨w.heap.size+1,3,none⟩=some (.int .i64 r3)∧w'.cell? ⟨w.heap.size+1,4,none⟩=some (.int .i64 r4)∧w'.cell? ⟨w.heap.size+1,5,none⟩=some (.slice rA rn rc)):=Lh (fun w' hb=>by
  obtain ⟨x0,x1,x2,x3,x4,x5,_⟩:=cells6 (HQ.out.below hb HQ.out.lt)
  exact ⟨x0,x1,x2,x3,x4,x5⟩)
 clear hc hr he hbw e0 e1
 go_enter Tryz.func6,Tryz.ntmps6
 go_upto_region 1 with fail
 rw[←hW]
 clear hW
 go_wp2_with fail
 refine (sSane N W E0.out).mono ?_
 rintro e w1 ⟨rfl,b1⟩
 have B1:=Lh b1;clear b1
 obtain ⟨x0,x1,x2,x3,x4,x5,x6⟩:=Hcat.out w1 B1.out
 cases hf:Sx.few c with
 | false=>
  go_wp2_with fail
  refine (rFew c w1 _ (CatAt.keep (old_keep B1.out) C0.out)).mono ?_
  rw[hf]
  rintro e w2 ⟨rfl,b2⟩
  have B2:=Lh (B1.out.trans (b2.mono B1.out.size));clear b2
  go_wp2_with fail
  go_ret
  exact ⟨rfl,BW.out.trans (B2.out.mono BW.out.size)⟩
 | true=>
 have HFC:=Lh hf
 go_wp2_with fail
 refine (rFew c w1 _ (CatAt.keep (old_keep B1.out) C0.out)).mono ?_
 rw[hf]
 rintro e w2 ⟨rfl,b2⟩
 have B2:=Lh (B1.out.trans (b2.mono B1.out.size))
 clear b2 hf x0 x1 x2 x3 x4 x5 x6
 obtain ⟨x0,x1,x2,x3,x4,x5⟩:=Hrul.out w2 B2.out
 cases hg:Sx.fewRule r with
 | false=>
  go_wp2_with fail
  refine (rFewRules r w2 _ (old_rule B2.out R0.out)).mono ?_
  rw[hg]
  rintro e w3 ⟨rfl,b3⟩
  have B3:=Lh (B2.out.trans (b3.mono B2.out.size));clear b3
  go_wp2_with fail
  go_ret
  exact ⟨rfl,BW.out.trans (B3.out.mono BW.out.size)⟩
 | true=>
 have HFR:=Lh hg
 go_wp2_with fail
 refine (rFewRules r w2 _ (old_rule B2.out R0.out)).mono ?_
 rw[hg]
 rintro e w3 ⟨rfl,b3⟩
 have B3:=Lh (B2.out.trans (b3.mono B2.out.size))
 clear b3 hg x0 x1 x2 x3 x4 x5
 obtain ⟨x0,x1,x2,x3,x4,x5,x6⟩:=Hcat.out w3 B3.out
 clear B1 B2
 have HRR:Hid (Sx.ruleOk 16 r=false∨(∃ u,Sx.ruleOk 16 r=true∧Lx.text (Sx.ruleT r)=some u∧((Sx.ruleT r).length≤60000∧∀ t∈Sx.ruleT r,t.text.length≤65536)∧65536 < u.length∧True)∨∃ u,Sx.ruleOk 16 r=true∧Lx.text (Sx.ruleT r)=some u∧((Sx.ruleT r).length≤60000∧∀ t∈Sx.ruleT r,t.text.length≤65536)∧u.length≤65536∧Sx.parseRule u = .ok r.un∧Sx.ruleOk 16 r.un=true):=Lh (by
  cases hk:Sx.ruleOk 16 r with
  | false=>exact .inl rfl
  | true=>
   obtain ⟨h1,h2,u,hu,hb⟩:=Sx.back_rule HFR.out hk
   rcases Nat.lt_or_ge 65536 u.length with h | h
   ·exact .inr (.inl ⟨u,rfl,hu,⟨h1,h2⟩,h,trivial⟩)
   ·exact .inr (.inr ⟨u,rfl,hu,⟨h1,h2⟩,h,hb h⟩))
 cases hk:Sx.catOk c with
 | false=>
  go_wp2_with fail
  refine (sPrintBad c _ w3 (CatAt.keep (old_keep B3.out) C0.out) hk).mono ?_
  rintro e wz ⟨rfl,bz⟩
  have BZ:=Lh (B3.out.trans (bz.mono B3.out.size))
  clear bz hk x0 x1 x2 x3 x4 x5 x6 B3
  obtain ⟨x0,x1,x2,x3,x4,x5⟩:=Hrul.out wz BZ.out
  go_wp2_with fail
  all_goals (
   rcases HRR.out with hq | ⟨u,hq,hu,hux,hul,hq2⟩ | ⟨u,hq,hu,hux,hul,hq2⟩
   ·refine (sPrintRuleBad r _ wz (old_rule BZ.out R0.out) hq).mono ?_
    rintro e wy ⟨rfl,by_⟩
    have BY:=Lh (BZ.out.trans (by_.mono BZ.out.size))
    clear by_ hq
    rw[show Lx.bs []=⟨#[]⟩ from rfl]
    go_wp2_with fail
    go_ret
    exact ⟨ret_bool rfl,BW.out.trans (BY.out.mono BW.out.size)⟩
   ·have hus:((Lx.bs u).size:Int) > 65536:=by rw [Lx.bs_size];omega
    refine (sPrintRule N r _ u wz (E0.out.next BZ.out) (old_rule BZ.out R0.out) hq hux.1 hu hux.2).mono ?_
    rintro e wy ⟨rfl,by_⟩
    have BY:=Lh (BZ.out.trans (by_.mono BZ.out.size))
    clear by_ hq hu hux hul hq2
    go_wp2_with fail
    go_ret
    exact ⟨ret_bool rfl,BW.out.trans (BY.out.mono BW.out.size)⟩
   ·have hus:¬ ((Lx.bs u).size:Int) > 65536:=by rw [Lx.bs_size];omega
    have HQ0:=Lh hq;have HU:=Lh hu;have HUX:=Lh hux;have HQ2:=Lh hq2
    refine (sPrintRule N r _ u wz (E0.out.next BZ.out) (old_rule BZ.out R0.out) hq hux.1 hu hux.2).mono ?_
    rintro e wy ⟨rfl,by_⟩
    have BY:=Lh (BZ.out.trans (by_.mono BZ.out.size))
    clear by_ hq hu hux hq2
    go_wp2_with fail
    refine (sRule_ok (Lx.bs u) N r.un (by rw [Lx.bs_list];exact HQ2.out.1) wy (E0.out.next BY.out) (by rw [Lx.bs_size];omega)).mono ?_
    rintro e v1 ⟨cs1,rfl,h1,b1⟩
    have V1:=Lh (BY.out.trans (b1.mono BY.out.size))
    obtain ⟨j0,j1,j2,j3,j4,jA,jn,jc,rfl⟩:=form_rule h1
    obtain ⟨V2,hV2⟩:∃ V,V=v1.alloc (.cells #[.int .i64 j0,.int .i64 j1,.string j2,.int .i64 j3,.int .i64 j4,.slice jA jn jc] 38):=⟨_,rfl⟩
    have b2:Below v1.heap.size v1 V2:=by rw [hV2];exact (Below.refl _ _).alloc (Nat.le_refl _) _
    have p2:Blk V2 v1.heap.size 38 #[.int .i64 j0,.int .i64 j1,.string j2,.int .i64 j3,.int .i64 j4,.slice jA jn jc]:=by rw [hV2];exact Blk.new _ _ _
    have D2:=Lh (V1.out.trans (b2.mono V1.out.size));have P2:=Lh p2;have R2:=Lh (old_rule b2 h1)
    obtain ⟨pr,hpr⟩:∃ pr,pr=v1.heap.size:=⟨_,rfl⟩
    clear x0 x1 x2 x3 x4 x5
    go_upto_region 15 with fail
    rw[←hV2]
    rw[←hpr] at P2 ⊢
    obtain ⟨x0,x1,x2,x3,x4,x5,xz⟩:=cells6 P2.out
    clear b1 b2 p2 h1 hV2 hpr V1
    go_wp2_with fail
    refine (sPrintRule N r.un _ u V2 (E0.out.next D2.out) R2.out HQ2.out.2 (by rw [Sx.ruleT_un];exact HUX.out.1) (by rw [Sx.ruleT_un];exact HU.out) (by rw [Sx.ruleT_un];exact HUX.out.2)).mono ?_
    rintro e v3 ⟨rfl,b3⟩
    have D3:=Lh (D2.out.trans (b3.mono D2.out.size));have P3:=Lh (P2.out.below b3 xz);have R3:=Lh (old_rule b3 R2.out)
    clear b3 x0 x1 x2 x3 x4 x5 xz
    have Hal:Hid (∀ w':World,Below v3.heap.size v3 w'→w'.cell? ⟨pr,0,none⟩=some (.int .i64 j0)∧w'.cell? ⟨pr,1,none⟩=some (.int .i64 j1)∧w'.cell? ⟨pr,2,none⟩=some (.string j2)∧w'.cell? ⟨pr,3,none⟩=some (.int .i64 j3)∧w'.cell? ⟨pr,4,none⟩=some (.int .i64 j4)∧w'.cell? ⟨pr,5,none⟩=some (.slice jA jn jc)∧w'.cell? ⟨w.heap.size+1,0,none⟩=some (.int .i64 r0)∧w'.cell? ⟨w.heap.size+1,1,none⟩=some (.int .i64 r1)∧w'.cell? ⟨w.heap.size+1,2,none⟩=some (.string r2)∧w'.cell? ⟨w.heap.size+1,3,none⟩=some (.int .i64 r3)∧w'.cell? ⟨w.heap.size+1,4,none⟩=some (.int .i64 r4)∧w'.cell? ⟨w.heap.size+1,5,none⟩=some (.slice rA rn rc)):=Lh (fun w' hb=>by
     obtain ⟨x0,x1,x2,x3,x4,x5,_⟩:=cells6 (P3.out.below hb P3.out.lt)
     exact ⟨x0,x1,x2,x3,x4,x5,Hrul.out w' (D3.out.trans (hb.mono D3.out.size))⟩)
    have przc:=P3.out.lt
    have wz3:=D3.out.size
    go_wp2_with fail
    go_region_held_law (fun w':World=>w'.cell? ⟨pr,0,none⟩=some (.int .i64 j0)∧w'.cell? ⟨pr,1,none⟩=some (.int .i64 j1)∧w'.cell? ⟨pr,2,none⟩=some (.string j2)∧w'.cell? ⟨pr,3,none⟩=some (.int .i64 j3)∧w'.cell? ⟨pr,4,none⟩=some (.int .i64 j4)∧w'.cell? ⟨pr,5,none⟩=some (.slice jA jn jc)∧w'.cell? ⟨w.heap.size+1,0,none⟩=some (.int .i64 r0)∧w'.cell? ⟨w.heap.size+1,1,none⟩=some (.int .i64 r1)∧w'.cell? ⟨w.heap.size+1,2,none⟩=some (.string r2)∧w'.cell? ⟨w.heap.size+1,3,none⟩=some (.int .i64 r3)∧w'.cell? ⟨w.heap.size+1,4,none⟩=some (.int .i64 r4)∧w'.cell? ⟨w.heap.size+1,5,none⟩=some (.slice rA rn rc)) (first | exact Hal.out _ (Below.refl v3.heap.size v3).drew | go_keep) (first
     | (go_at_call 17;refine (rSameRule _ r.un r.un (Nat.lt_succ_self _) _ _ _ (old_rule HD4.out R3.out) R4.out).mono ?_;rw[(Sx.ruleEq_iff r.un r.un).2 rfl];rintro e v5 ⟨rfl,hb5⟩;have hc5:=HD4.out.trans (hb5.mono HD4.out.size);obtain ⟨r_0,r_1,r_2,r_3,r_4,r_5,r_6,r_7,r_8,r_9,r_10,r_11⟩:=Hal.out v5 hc5;have HD5:=Lh hc5;clear hb5 hc5)
     | (go_at_call 26;refine (rUnR r HQ0.out _ _ (old_rule (Below.trans D3.out ((Below.refl v3.heap.size v3).drew.mono wz3)) R0.out)).mono ?_;rintro e v4 ⟨hb4,cs4,rfl,h4⟩;obtain ⟨k0,k1,k2,k3,k4,kA,kn,kc,rfl⟩:=form_rule h4;have hc4:=Below.trans (Below.refl v3.heap.size v3).drew hb4;obtain ⟨r_0,r_1,r_2,r_3,r_4,r_5,r_6,r_7,r_8,r_9,r_10,r_11⟩:=Hal.out v4 hc4;have HD4:=Lh hc4;have R4:=Lh h4;clear hb4 hc4 h4))
    all_goals (try go_wp2_with fail)
    all_goals go_ret
    all_goals exact ⟨ret_bool (by simp),BW.out.trans ((D3.out.trans (HD5.out.mono D3.out.size)).mono BW.out.size)⟩)
 | true=>
  obtain ⟨htl,htx,o,ho,hback⟩:=Sx.back_cat HFC.out hk
  obtain ⟨hs0,hs1,hs2,hs3⟩:=Sx.back_few HFC.out hk
  have hos:(Lx.bs o).size=o.length:=Lx.bs_size o
  have HK:=Lh hk;have HT:=Lh htl;have HX:=Lh htx;have HO:=Lh ho;have HB:=Lh hback
  have K0:=Lh hs0;have K1:=Lh hs1;have K2:=Lh hs2;have K3:=Lh hs3;have Hos:=Lh hos
  clear hk htl htx ho hback hs0 hs1 hs2 hs3
  by_cases hle:o.length≤65536
  ·have hso:((Lx.bs o).size:Int)≤65536:=by rw [hos];omega
   clear hos
   go_wp2_with fail
   refine (sPrint N c _ o w3 (E0.out.next B3.out) (CatAt.keep (old_keep B3.out) C0.out) HK.out HT.out HO.out HX.out).mono ?_
   rintro e w4 ⟨rfl,b4⟩
   have B4:=Lh (B3.out.trans (b4.mono B3.out.size))
   clear b4 x0 x1 x2 x3 x4 x5 x6 B3
   go_wp2_with fail
   refine (sParse_ok (Lx.bs o) N c.un (by rw [Lx.bs_list];exact (HB.out hle).1) w4 (E0.out.next B4.out) (by rw [Hos.out];omega)).mono ?_
   rintro e w5 ⟨cs5,rfl,h5,b5⟩
   have B5:=Lh (B4.out.trans (b5.mono B4.out.size))
   obtain ⟨kA0,kn0,kc0,kA1,kn1,kc1,kA2,kn2,kc2,kA3,kn3,kc3,kA4,kn4,kc4,kA5,kn5,kc5,kA6,kn6,kc6,rfl⟩:=cat_seven h5
   obtain ⟨W6,hW6⟩:∃ V,V=w5.alloc (.cells #[.slice kA0 kn0 kc0,.slice kA1 kn1 kc1,.slice kA2 kn2 kc2,.slice kA3 kn3 kc3,.slice kA4 kn4 kc4,.slice kA5 kn5 kc5,.slice kA6 kn6 kc6] 30):=⟨_,rfl⟩
   have b6:Below w5.heap.size w5 W6:=by rw [hW6];exact (Below.refl _ _).alloc (Nat.le_refl _) _
   have p6:Blk W6 w5.heap.size 30 #[.slice kA0 kn0 kc0,.slice kA1 kn1 kc1,.slice kA2 kn2 kc2,.slice kA3 kn3 kc3,.slice kA4 kn4 kc4,.slice kA5 kn5 kc5,.slice kA6 kn6 kc6]:=by rw [hW6];exact Blk.new _ _ _
   have B6:=Lh (B5.out.trans (b6.mono B5.out.size));have P6:=Lh p6;have C6:=Lh (CatAt.keep (old_keep b6) h5)
   obtain ⟨pc,hpc⟩:∃ pc,pc=w5.heap.size:=⟨_,rfl⟩
   go_upto_region 8 with fail
   rw[←hW6]
   rw[←hpc] at P6 ⊢
   obtain ⟨x0,x1,x2,x3,x4,x5,x6,xz⟩:=cells7 P6.out
   clear b5 b6 p6 h5 hW6 hpc B4 B5
   go_wp2_with fail
   refine (sPrint N c.un _ o W6 (E0.out.next B6.out) C6.out (HB.out hle).2 (by rw [Sx.catT_un];exact HT.out) (by rw [Sx.catT_un];exact HO.out) (by rw [Sx.catT_un];exact HX.out)).mono ?_
   rintro e w7 ⟨rfl,b7⟩
   have B7:=Lh (B6.out.trans (b7.mono B6.out.size));have P7:=Lh (P6.out.below b7 xz);have C7:=Lh (CatAt.keep (old_keep b7) C6.out)
   clear b7 x0 x1 x2 x3 x4 x5 x6 xz
   have Hall:Hid (∀ w':World,Below w7.heap.size w7 w'→w'.cell? ⟨pc,0,none⟩=some (.slice kA0 kn0 kc0)∧w'.cell? ⟨pc,1,none⟩=some (.slice kA1 kn1 kc1)∧w'.cell? ⟨pc,2,none⟩=some (.slice kA2 kn2 kc2)∧w'.cell? ⟨pc,3,none⟩=some (.slice kA3 kn3 kc3)∧w'.cell? ⟨pc,4,none⟩=some (.slice kA4 kn4 kc4)∧w'.cell? ⟨pc,5,none⟩=some (.slice kA5 kn5 kc5)∧w'.cell? ⟨pc,6,none⟩=some (.slice kA6 kn6 kc6)∧w'.cell? ⟨w.heap.size,0,none⟩=some (.slice iA0 in0 ic0)∧w'.cell? ⟨w.heap.size,1,none⟩=some (.slice iA1 in1 ic1)∧w'.cell? ⟨w.heap.size,2,none⟩=some (.slice iA2 in2 ic2)∧w'.cell? ⟨w.heap.size,3,none⟩=some (.slice iA3 in3 ic3)∧w'.cell? ⟨w.heap.size,4,none⟩=some (.slice iA4 in4 ic4)∧w'.cell? ⟨w.heap.size,5,none⟩=some (.slice iA5 in5 ic5)∧w'.cell? ⟨w.heap.size,6,none⟩=some (.slice iA6 in6 ic6)):=Lh (fun w' hb=>by
    obtain ⟨x0,x1,x2,x3,x4,x5,x6,_⟩:=cells7 (P7.out.below hb P7.out.lt)
    exact ⟨x0,x1,x2,x3,x4,x5,x6,Hcat.out w' (B7.out.trans (hb.mono B7.out.size))⟩)
   have pzc:=P7.out.lt
   have wz7:=B7.out.size
   go_wp2_with fail
   go_region_held_law (fun w':World=>w'.cell? ⟨pc,0,none⟩=some (.slice kA0 kn0 kc0)∧w'.cell? ⟨pc,1,none⟩=some (.slice kA1 kn1 kc1)∧w'.cell? ⟨pc,2,none⟩=some (.slice kA2 kn2 kc2)∧w'.cell? ⟨pc,3,none⟩=some (.slice kA3 kn3 kc3)∧w'.cell? ⟨pc,4,none⟩=some (.slice kA4 kn4 kc4)∧w'.cell? ⟨pc,5,none⟩=some (.slice kA5 kn5 kc5)∧w'.cell? ⟨pc,6,none⟩=some (.slice kA6 kn6 kc6)∧w'.cell? ⟨w.heap.size,0,none⟩=some (.slice iA0 in0 ic0)∧w'.cell? ⟨w.heap.size,1,none⟩=some (.slice iA1 in1 ic1)∧w'.cell? ⟨w.heap.size,2,none⟩=some (.slice iA2 in2 ic2)∧w'.cell? ⟨w.heap.size,3,none⟩=some (.slice iA3 in3 ic3)∧w'.cell? ⟨w.heap.size,4,none⟩=some (.slice iA4 in4 ic4)∧w'.cell? ⟨w.heap.size,5,none⟩=some (.slice iA5 in5 ic5)∧w'.cell? ⟨w.heap.size,6,none⟩=some (.slice iA6 in6 ic6)) (first | exact Hall.out _ (Below.refl w7.heap.size w7).drew | go_keep) (first
    | (go_at_call 14;refine (rSame c.un c.un _ _ _ (CatAt.keep (old_keep HB8.out) C7.out) C8.out).mono ?_;rw[decide_eq_true rfl];rintro e wz ⟨rfl,hb9⟩;have hc9:=HB8.out.trans (hb9.mono HB8.out.size);obtain ⟨r_0,r_1,r_2,r_3,r_4,r_5,r_6,r_7,r_8,r_9,r_10,r_11,r_12,r_13⟩:=Hall.out wz hc9;have HB9:=Lh hc9;clear hb9 hc9)
    | (go_at_call 25;refine (rUn c HK.out K0.out K1.out K2.out K3.out _ _ (CatAt.keep (old_keep (Below.trans B7.out ((Below.refl w7.heap.size w7).drew.mono wz7))) C0.out)).mono ?_;rintro e w8 ⟨hb8,cs8,rfl,h8⟩;obtain ⟨mA0,mn0,mc0,mA1,mn1,mc1,mA2,mn2,mc2,mA3,mn3,mc3,mA4,mn4,mc4,mA5,mn5,mc5,mA6,mn6,mc6,rfl⟩:=cat_seven h8;have hc8:=Below.trans (Below.refl w7.heap.size w7).drew hb8;obtain ⟨r_0,r_1,r_2,r_3,r_4,r_5,r_6,r_7,r_8,r_9,r_10,r_11,r_12,r_13⟩:=Hall.out w8 hc8;have HB8:=Lh hc8;have C8:=Lh h8;clear hb8 hc8 h8))
   all_goals (
    clear r_0 r_1 r_2 r_3 r_4 r_5 r_6 r_7 r_8 r_9 r_10 r_11 r_12 r_13
    have BZ:=Lh (B7.out.trans (HB9.out.mono B7.out.size))
    clear B6 B7 P6 C6 P7 C7 pzc wz7 HB9
    obtain ⟨x0,x1,x2,x3,x4,x5⟩:=Hrul.out wz BZ.out
    try go_wp2_with fail)
   all_goals (
    rcases HRR.out with hq | ⟨u,hq,hu,hux,hul,hq2⟩ | ⟨u,hq,hu,hux,hul,hq2⟩
    ·refine (sPrintRuleBad r _ wz (old_rule BZ.out R0.out) hq).mono ?_
     rintro e wy ⟨rfl,by_⟩
     have BY:=Lh (BZ.out.trans (by_.mono BZ.out.size))
     clear by_ hq
     rw[show Lx.bs []=⟨#[]⟩ from rfl]
     go_wp2_with fail
     go_ret
     exact ⟨ret_bool rfl,BW.out.trans (BY.out.mono BW.out.size)⟩
    ·have hus:((Lx.bs u).size:Int) > 65536:=by rw [Lx.bs_size];omega
     refine (sPrintRule N r _ u wz (E0.out.next BZ.out) (old_rule BZ.out R0.out) hq hux.1 hu hux.2).mono ?_
     rintro e wy ⟨rfl,by_⟩
     have BY:=Lh (BZ.out.trans (by_.mono BZ.out.size))
     clear by_ hq hu hux hul hq2
     go_wp2_with fail
     go_ret
     exact ⟨ret_bool rfl,BW.out.trans (BY.out.mono BW.out.size)⟩
    ·have hus:¬ ((Lx.bs u).size:Int) > 65536:=by rw [Lx.bs_size];omega
     have HQ0:=Lh hq;have HU:=Lh hu;have HUX:=Lh hux;have HQ2:=Lh hq2
     refine (sPrintRule N r _ u wz (E0.out.next BZ.out) (old_rule BZ.out R0.out) hq hux.1 hu hux.2).mono ?_
     rintro e wy ⟨rfl,by_⟩
     have BY:=Lh (BZ.out.trans (by_.mono BZ.out.size))
     clear by_ hq hu hux hq2
     go_wp2_with fail
     refine (sRule_ok (Lx.bs u) N r.un (by rw [Lx.bs_list];exact HQ2.out.1) wy (E0.out.next BY.out) (by rw [Lx.bs_size];omega)).mono ?_
     rintro e v1 ⟨cs1,rfl,h1,b1⟩
     have V1:=Lh (BY.out.trans (b1.mono BY.out.size))
     obtain ⟨j0,j1,j2,j3,j4,jA,jn,jc,rfl⟩:=form_rule h1
     obtain ⟨V2,hV2⟩:∃ V,V=v1.alloc (.cells #[.int .i64 j0,.int .i64 j1,.string j2,.int .i64 j3,.int .i64 j4,.slice jA jn jc] 38):=⟨_,rfl⟩
     have b2:Below v1.heap.size v1 V2:=by rw [hV2];exact (Below.refl _ _).alloc (Nat.le_refl _) _
     have p2:Blk V2 v1.heap.size 38 #[.int .i64 j0,.int .i64 j1,.string j2,.int .i64 j3,.int .i64 j4,.slice jA jn jc]:=by rw [hV2];exact Blk.new _ _ _
     have D2:=Lh (V1.out.trans (b2.mono V1.out.size));have P2:=Lh p2;have R2:=Lh (old_rule b2 h1)
     obtain ⟨pr,hpr⟩:∃ pr,pr=v1.heap.size:=⟨_,rfl⟩
     clear x0 x1 x2 x3 x4 x5
     go_upto_region 15 with fail
     rw[←hV2]
     rw[←hpr] at P2 ⊢
     obtain ⟨x0,x1,x2,x3,x4,x5,xz⟩:=cells6 P2.out
     clear b1 b2 p2 h1 hV2 hpr V1
     go_wp2_with fail
     refine (sPrintRule N r.un _ u V2 (E0.out.next D2.out) R2.out HQ2.out.2 (by rw [Sx.ruleT_un];exact HUX.out.1) (by rw [Sx.ruleT_un];exact HU.out) (by rw [Sx.ruleT_un];exact HUX.out.2)).mono ?_
     rintro e v3 ⟨rfl,b3⟩
     have D3:=Lh (D2.out.trans (b3.mono D2.out.size));have P3:=Lh (P2.out.below b3 xz);have R3:=Lh (old_rule b3 R2.out)
     clear b3 x0 x1 x2 x3 x4 x5 xz
     have Hal:Hid (∀ w':World,Below v3.heap.size v3 w'→w'.cell? ⟨pr,0,none⟩=some (.int .i64 j0)∧w'.cell? ⟨pr,1,none⟩=some (.int .i64 j1)∧w'.cell? ⟨pr,2,none⟩=some (.string j2)∧w'.cell? ⟨pr,3,none⟩=some (.int .i64 j3)∧w'.cell? ⟨pr,4,none⟩=some (.int .i64 j4)∧w'.cell? ⟨pr,5,none⟩=some (.slice jA jn jc)∧w'.cell? ⟨w.heap.size+1,0,none⟩=some (.int .i64 r0)∧w'.cell? ⟨w.heap.size+1,1,none⟩=some (.int .i64 r1)∧w'.cell? ⟨w.heap.size+1,2,none⟩=some (.string r2)∧w'.cell? ⟨w.heap.size+1,3,none⟩=some (.int .i64 r3)∧w'.cell? ⟨w.heap.size+1,4,none⟩=some (.int .i64 r4)∧w'.cell? ⟨w.heap.size+1,5,none⟩=some (.slice rA rn rc)):=Lh (fun w' hb=>by
      obtain ⟨x0,x1,x2,x3,x4,x5,_⟩:=cells6 (P3.out.below hb P3.out.lt)
      exact ⟨x0,x1,x2,x3,x4,x5,Hrul.out w' (D3.out.trans (hb.mono D3.out.size))⟩)
     have przc:=P3.out.lt
     have wz3:=D3.out.size
     go_wp2_with fail
     go_region_held_law (fun w':World=>w'.cell? ⟨pr,0,none⟩=some (.int .i64 j0)∧w'.cell? ⟨pr,1,none⟩=some (.int .i64 j1)∧w'.cell? ⟨pr,2,none⟩=some (.string j2)∧w'.cell? ⟨pr,3,none⟩=some (.int .i64 j3)∧w'.cell? ⟨pr,4,none⟩=some (.int .i64 j4)∧w'.cell? ⟨pr,5,none⟩=some (.slice jA jn jc)∧w'.cell? ⟨w.heap.size+1,0,none⟩=some (.int .i64 r0)∧w'.cell? ⟨w.heap.size+1,1,none⟩=some (.int .i64 r1)∧w'.cell? ⟨w.heap.size+1,2,none⟩=some (.string r2)∧w'.cell? ⟨w.heap.size+1,3,none⟩=some (.int .i64 r3)∧w'.cell? ⟨w.heap.size+1,4,none⟩=some (.int .i64 r4)∧w'.cell? ⟨w.heap.size+1,5,none⟩=some (.slice rA rn rc)) (first | exact Hal.out _ (Below.refl v3.heap.size v3).drew | go_keep) (first
      | (go_at_call 17;refine (rSameRule _ r.un r.un (Nat.lt_succ_self _) _ _ _ (old_rule HD4.out R3.out) R4.out).mono ?_;rw[(Sx.ruleEq_iff r.un r.un).2 rfl];rintro e v5 ⟨rfl,hb5⟩;have hc5:=HD4.out.trans (hb5.mono HD4.out.size);obtain ⟨r_0,r_1,r_2,r_3,r_4,r_5,r_6,r_7,r_8,r_9,r_10,r_11⟩:=Hal.out v5 hc5;have HD5:=Lh hc5;clear hb5 hc5)
      | (go_at_call 26;refine (rUnR r HQ0.out _ _ (old_rule (Below.trans D3.out ((Below.refl v3.heap.size v3).drew.mono wz3)) R0.out)).mono ?_;rintro e v4 ⟨hb4,cs4,rfl,h4⟩;obtain ⟨k0,k1,k2,k3,k4,kA,kn,kc,rfl⟩:=form_rule h4;have hc4:=Below.trans (Below.refl v3.heap.size v3).drew hb4;obtain ⟨r_0,r_1,r_2,r_3,r_4,r_5,r_6,r_7,r_8,r_9,r_10,r_11⟩:=Hal.out v4 hc4;have HD4:=Lh hc4;have R4:=Lh h4;clear hb4 hc4 h4))
     all_goals (try go_wp2_with fail)
     all_goals go_ret
     all_goals exact ⟨ret_bool (by simp),BW.out.trans ((D3.out.trans (HD5.out.mono D3.out.size)).mono BW.out.size)⟩)
  ·have hso:¬ ((Lx.bs o).size:Int)≤65536:=by rw [hos];omega
   clear hos
   go_wp2_with fail
   refine (sPrint N c _ o w3 (E0.out.next B3.out) (CatAt.keep (old_keep B3.out) C0.out) HK.out HT.out HO.out HX.out).mono ?_
   rintro e wz ⟨rfl,b4⟩
   have BZ:=Lh (B3.out.trans (b4.mono B3.out.size))
   clear b4 x0 x1 x2 x3 x4 x5 x6 B3
   obtain ⟨x0,x1,x2,x3,x4,x5⟩:=Hrul.out wz BZ.out
   go_wp2_with fail
   all_goals (
    rcases HRR.out with hq | ⟨u,hq,hu,hux,hul,hq2⟩ | ⟨u,hq,hu,hux,hul,hq2⟩
    ·refine (sPrintRuleBad r _ wz (old_rule BZ.out R0.out) hq).mono ?_
     rintro e wy ⟨rfl,by_⟩
     have BY:=Lh (BZ.out.trans (by_.mono BZ.out.size))
     clear by_ hq
     rw[show Lx.bs []=⟨#[]⟩ from rfl]
     go_wp2_with fail
     go_ret
     exact ⟨ret_bool rfl,BW.out.trans (BY.out.mono BW.out.size)⟩
    ·have hus:((Lx.bs u).size:Int) > 65536:=by rw [Lx.bs_size];omega
     refine (sPrintRule N r _ u wz (E0.out.next BZ.out) (old_rule BZ.out R0.out) hq hux.1 hu hux.2).mono ?_
     rintro e wy ⟨rfl,by_⟩
     have BY:=Lh (BZ.out.trans (by_.mono BZ.out.size))
     clear by_ hq hu hux hul hq2
     go_wp2_with fail
     go_ret
     exact ⟨ret_bool rfl,BW.out.trans (BY.out.mono BW.out.size)⟩
    ·have hus:¬ ((Lx.bs u).size:Int) > 65536:=by rw [Lx.bs_size];omega
     have HQ0:=Lh hq;have HU:=Lh hu;have HUX:=Lh hux;have HQ2:=Lh hq2
     refine (sPrintRule N r _ u wz (E0.out.next BZ.out) (old_rule BZ.out R0.out) hq hux.1 hu hux.2).mono ?_
     rintro e wy ⟨rfl,by_⟩
     have BY:=Lh (BZ.out.trans (by_.mono BZ.out.size))
     clear by_ hq hu hux hq2
     go_wp2_with fail
     refine (sRule_ok (Lx.bs u) N r.un (by rw [Lx.bs_list];exact HQ2.out.1) wy (E0.out.next BY.out) (by rw [Lx.bs_size];omega)).mono ?_
     rintro e v1 ⟨cs1,rfl,h1,b1⟩
     have V1:=Lh (BY.out.trans (b1.mono BY.out.size))
     obtain ⟨j0,j1,j2,j3,j4,jA,jn,jc,rfl⟩:=form_rule h1
     obtain ⟨V2,hV2⟩:∃ V,V=v1.alloc (.cells #[.int .i64 j0,.int .i64 j1,.string j2,.int .i64 j3,.int .i64 j4,.slice jA jn jc] 38):=⟨_,rfl⟩
     have b2:Below v1.heap.size v1 V2:=by rw [hV2];exact (Below.refl _ _).alloc (Nat.le_refl _) _
     have p2:Blk V2 v1.heap.size 38 #[.int .i64 j0,.int .i64 j1,.string j2,.int .i64 j3,.int .i64 j4,.slice jA jn jc]:=by rw [hV2];exact Blk.new _ _ _
     have D2:=Lh (V1.out.trans (b2.mono V1.out.size));have P2:=Lh p2;have R2:=Lh (old_rule b2 h1)
     obtain ⟨pr,hpr⟩:∃ pr,pr=v1.heap.size:=⟨_,rfl⟩
     clear x0 x1 x2 x3 x4 x5
     go_upto_region 15 with fail
     rw[←hV2]
     rw[←hpr] at P2 ⊢
     obtain ⟨x0,x1,x2,x3,x4,x5,xz⟩:=cells6 P2.out
     clear b1 b2 p2 h1 hV2 hpr V1
     go_wp2_with fail
     refine (sPrintRule N r.un _ u V2 (E0.out.next D2.out) R2.out HQ2.out.2 (by rw [Sx.ruleT_un];exact HUX.out.1) (by rw [Sx.ruleT_un];exact HU.out) (by rw [Sx.ruleT_un];exact HUX.out.2)).mono ?_
     rintro e v3 ⟨rfl,b3⟩
     have D3:=Lh (D2.out.trans (b3.mono D2.out.size));have P3:=Lh (P2.out.below b3 xz);have R3:=Lh (old_rule b3 R2.out)
     clear b3 x0 x1 x2 x3 x4 x5 xz
     have Hal:Hid (∀ w':World,Below v3.heap.size v3 w'→w'.cell? ⟨pr,0,none⟩=some (.int .i64 j0)∧w'.cell? ⟨pr,1,none⟩=some (.int .i64 j1)∧w'.cell? ⟨pr,2,none⟩=some (.string j2)∧w'.cell? ⟨pr,3,none⟩=some (.int .i64 j3)∧w'.cell? ⟨pr,4,none⟩=some (.int .i64 j4)∧w'.cell? ⟨pr,5,none⟩=some (.slice jA jn jc)∧w'.cell? ⟨w.heap.size+1,0,none⟩=some (.int .i64 r0)∧w'.cell? ⟨w.heap.size+1,1,none⟩=some (.int .i64 r1)∧w'.cell? ⟨w.heap.size+1,2,none⟩=some (.string r2)∧w'.cell? ⟨w.heap.size+1,3,none⟩=some (.int .i64 r3)∧w'.cell? ⟨w.heap.size+1,4,none⟩=some (.int .i64 r4)∧w'.cell? ⟨w.heap.size+1,5,none⟩=some (.slice rA rn rc)):=Lh (fun w' hb=>by
      obtain ⟨x0,x1,x2,x3,x4,x5,_⟩:=cells6 (P3.out.below hb P3.out.lt)
      exact ⟨x0,x1,x2,x3,x4,x5,Hrul.out w' (D3.out.trans (hb.mono D3.out.size))⟩)
     have przc:=P3.out.lt
     have wz3:=D3.out.size
     go_wp2_with fail
     go_region_held_law (fun w':World=>w'.cell? ⟨pr,0,none⟩=some (.int .i64 j0)∧w'.cell? ⟨pr,1,none⟩=some (.int .i64 j1)∧w'.cell? ⟨pr,2,none⟩=some (.string j2)∧w'.cell? ⟨pr,3,none⟩=some (.int .i64 j3)∧w'.cell? ⟨pr,4,none⟩=some (.int .i64 j4)∧w'.cell? ⟨pr,5,none⟩=some (.slice jA jn jc)∧w'.cell? ⟨w.heap.size+1,0,none⟩=some (.int .i64 r0)∧w'.cell? ⟨w.heap.size+1,1,none⟩=some (.int .i64 r1)∧w'.cell? ⟨w.heap.size+1,2,none⟩=some (.string r2)∧w'.cell? ⟨w.heap.size+1,3,none⟩=some (.int .i64 r3)∧w'.cell? ⟨w.heap.size+1,4,none⟩=some (.int .i64 r4)∧w'.cell? ⟨w.heap.size+1,5,none⟩=some (.slice rA rn rc)) (first | exact Hal.out _ (Below.refl v3.heap.size v3).drew | go_keep) (first
      | (go_at_call 17;refine (rSameRule _ r.un r.un (Nat.lt_succ_self _) _ _ _ (old_rule HD4.out R3.out) R4.out).mono ?_;rw[(Sx.ruleEq_iff r.un r.un).2 rfl];rintro e v5 ⟨rfl,hb5⟩;have hc5:=HD4.out.trans (hb5.mono HD4.out.size);obtain ⟨r_0,r_1,r_2,r_3,r_4,r_5,r_6,r_7,r_8,r_9,r_10,r_11⟩:=Hal.out v5 hc5;have HD5:=Lh hc5;clear hb5 hc5)
      | (go_at_call 26;refine (rUnR r HQ0.out _ _ (old_rule (Below.trans D3.out ((Below.refl v3.heap.size v3).drew.mono wz3)) R0.out)).mono ?_;rintro e v4 ⟨hb4,cs4,rfl,h4⟩;obtain ⟨k0,k1,k2,k3,k4,kA,kn,kc,rfl⟩:=form_rule h4;have hc4:=Below.trans (Below.refl v3.heap.size v3).drew hb4;obtain ⟨r_0,r_1,r_2,r_3,r_4,r_5,r_6,r_7,r_8,r_9,r_10,r_11⟩:=Hal.out v4 hc4;have HD4:=Lh hc4;have R4:=Lh h4;clear hb4 hc4 h4))
     all_goals (try go_wp2_with fail)
     all_goals go_ret
     all_goals exact ⟨ret_bool (by simp),BW.out.trans ((D3.out.trans (HD5.out.mono D3.out.size)).mono BW.out.size)⟩)
end Go.Proofs.YtjonaidancomgaaGreatDoor

namespace Go.Proofs.YtjonaidancomgaaGreatDoor
open Go.RowKit Go.WideShapes Go.ChangeShapes
set_option maxRecDepth 100000

section
variable {H : Type} {enc : TypeId × Value → H} {P : Program}
theorem post_of_below {f:Func} {s:ChangeSpec} {apart fresh handsOn again:Bool} {W W':World} {args:Array Value} {v:Value} {ds gs:List (DataW H)} {before pa pv:List MemPlace}
  (hW:DataW.Whole enc P f.params.toList s.vars apart W args.toList ds gs before)
  (hres:∀ (b:Nat) (sp:Nat→Bool) (hd:Bool),DataW.TrodAll enc P W' b sp hd f.resultTypes.toList (v.resultList f.resultTypes.size) (s.fn H (ds++gs)).results [])
  (hargs:∀ sp:Nat→Bool,(∀ p∈before,sp p.block=true)→DataW.TrodAll enc P W' 0 sp true f.params.toList args.toList (s.fn H (ds++gs)).args pa)
  (hvars:∀ sp:Nat→Bool,(∀ p∈before,sp p.block=true)→DataW.TrodVars enc P W' sp s.vars (s.fn H (ds++gs)).vars pv)
  (hps:before=pa++pv) (hb:Below W.heap.size W W')
  (hok:∀ (j:Nat) (t:TypeId) (r:Value),f.resultTypes[j]?=some t→(v.resultList f.resultTypes.size)[j]?=some r→Value.okWide P W' .any 0 t r) :
  s.post enc P f apart fresh handsOn again W args v W':=by
 have hlt:∀ p∈before,p.block < W.heap.size:=fun p hp=>hW.lt p hp
 have hold:∀ p∈before,(fun b=>decide (b < W.heap.size)) p.block=true:=fun p hp=>by simpa using hlt p hp
 refine ⟨ds,gs,before,[],pa,pv,hW,hres _ _ _,hargs _ hold,hvars _ hold,World.keptBut_mono (fun p hp=>⟨hp,?_⟩) (hb.frame (·∈before)),fun _=>?_⟩
 ·rw[hps,List.mem_append] at hp
  exact Or.inr hp
 ·obtain ⟨_,_,_,_,_,hz,hn⟩:=hW
  refine ⟨hok,_,_,([]++pa)++pv,⟨[]++pa,pv,trodAll_append (hargs _ (fun _ _=>rfl)) (hres _ _ _),hvars _ (fun _ _=>rfl),rfl,?_,?_⟩,?_⟩
  ·intro b off hp
   have hin:MemPlace.cell b off∈before:=by rw [hps];simpa using hp
   rw[hb.frozen (hlt _ hin)]
   exact hz b off hin
  ·intro ha
   have:=hn ha
   rw[hps] at this
   simpa using this
  ·intro p hp _
   rw[hps]
   simpa using hp
end

theorem own:ownKnob Tryz.prog.godebug=none:=by kernel_rfl
theorem starErr : "*" ++ "errors.errorString" = "*errors.errorString" := by decide
theorem rowErr (u : TypeId) (h : Tryz.prog.typeName? 3 u = some "*errors.errorString") : u = 272 :=
 typeName_ptr_named (nm := "errors.errorString") (by rw [starErr]; kernel_rfl) (by kernel_rfl) (by decide) u (by rw [starErr]; exact h)

theorem env_of_laid {x y z:DataW Unit} {text:List UInt8} {r:List (String × DataW Unit)} {W:World} (hz:z=Lib.tabData .u64 Lib.pow10Tab)
  (h : laidMet Tryz.prog (("math/bits.deBruijn32tab", x) :: ("math/bits.deBruijn64tab", y) :: ("internal/strconv.uint64pow10", z) :: ("strconv.ErrRange", .iface "*errors.errorString" (.ptr (.agg [.lit (.string text)]))) :: r) W) : Env W := by
 subst hz
 have h1:=h.tail
 have h2:=h1.tail
 have h3:=h2.tail
 refine ⟨?_,?_,?_⟩
 ·have ht:=Lib.tabIs_of_head (P:=Tryz.prog) (g:=8) (t:=266) (e:=229) (n:=20) (by kernel_rfl) (by kernel_rfl) Tryz.underlying266 Tryz.underlying229 (by kernel_rfl) (by kernel_rfl) h2
  unfold Lib.TabIs World.var? at ht
  rw [show Tryz.prog.globalNamed "internal/strconv.uint64pow10" = some 8 by kernel_rfl] at ht
  simp only[Option.bind_some] at ht
  split at ht
  ·rename_i cs t fz hh
   cases ht
   exact ⟨t,fz,hh⟩
  ·cases ht
 ·obtain ⟨a,s,hv,_⟩:=laid_sentinel h3 (g:=6) (ti:=204) (by kernel_rfl) (by kernel_rfl) Tryz.underlying204 rowErr Tryz.underlying272 Tryz.underlying274 rfl rfl Tryz.underlying9 (by kernel_rfl) (by kernel_rfl)
  have := World.var?_cell (show Tryz.prog.globalNamed "strconv.ErrRange" = some 6 by kernel_rfl) hv 0
  exact ⟨_,_,by simpa using this⟩
 ·obtain ⟨ps,⟨g,t,cs,fuel,p,q,hg,_,hv,_⟩,_⟩:=h1
  obtain rfl := Option.some.inj ((show Tryz.prog.globalNamed "math/bits.deBruijn64tab" = some 10 by kernel_rfl).symm.trans hg)
  unfold World.var? at hv
  rw[hg] at hv
  simp only[Option.bind_some] at hv
  rcases Nat.lt_or_ge 10 W.heap.size with hh | hh
  ·exact hh
  ·rw[Array.getElem?_eq_none hh] at hv
   cases hv

noncomputable def wit (os:Os) (args:Array Value):World:=(World.doorLaid Tryz.prog 87 os).forCall (fun _ _=>0) ⟨#[],args,[]⟩
theorem wit_vars (os:Os) (args:Array Value):(wit os args).variablesRefB Tryz.prog=true:=by kernel_rfl
theorem wit_rest (os:Os) (args:Array Value):((wit os args).heap.toList.drop Tryz.prog.globals.size).take ((begin Tryz.prog (fun _ _=>0) default).world.heap.size - Tryz.prog.globals.size) =
   (begin Tryz.prog (fun _ _=>0) default).world.heap.toList.drop Tryz.prog.globals.size:=by kernel_rfl
end Go.Proofs.YtjonaidancomgaaGreatDoor

namespace Go.Proofs.YtjonaidancomgaaGreatDoor
open Go.RowKit Go.WideShapes Go.ChangeShapes Go.Deep


section
variable {H : Type} {enc : TypeId × Value → H} {P : Program} {w : World} {base : Nat} {spare : Nat → Bool} {held : Bool}
end

theorem add_none (b o j:Nat):(⟨b,o,none⟩:Addr).add j=⟨b,o+j,none⟩:=by unfold Addr.add;split <;> simp_all
theorem cell_spot {w:World} {a:Addr} {v:Value} (h:w.cell? a=some v):a.spot=none:=by
 unfold World.cell? at h
 split at h
 ·split at h
  ·cases h
  ·rename_i h2;simpa using h2
 ·cases h

section
variable {H : Type} {enc : TypeId × Value → H}
structure Byts (w : World) (B : Nat) (A : Option Addr) (n : Nat) : Prop where
 at_:∀ k,k < n→∃ b o z,A=some ⟨b,o,none⟩∧b < B∧w.cell? ⟨b,o+k,none⟩=some (.int .u8 (z:Nat))∧z < 256
 len:n≤140737488351232
end
theorem Byts.below {w w':World} {B B':Nat} {A:Option Addr} {n:Nat} (h:Byts w B A n) (hb:Below B' w w') (hB:B≤B'):Byts w' B A n:=
 ⟨fun k hk=>by
  obtain ⟨b,o,z,e,hlt,hc,hz⟩:=h.at_ k hk
  exact ⟨b,o,z,e,hlt,(hb.cell (p:=⟨b,o+k,none⟩) (show b < B' by omega)).trans hc,hz⟩,h.len⟩
end Go.Proofs.YtjonaidancomgaaGreatDoor

namespace Go.Proofs.YtjonaidancomgaaGreatDoor
open Go.ChangeShapes Go.WideShapes Go.ChangeAt Go.RowKit Go.WideMaps Go.ChangeMaps

set_option maxRecDepth 100000 in
theorem glob_of_laid {nm:String} {gi:Nat} {ws:List (List UInt8)} {d:DataW Unit} {r:List (String × DataW Unit)} {W:World} (hgi:Tryz.prog.globalNamed nm=some gi) (hty:(Tryz.prog.globals[gi]?).map (·.type)=some 105) (hne:0 < ws.length) (hd0:d = .slice (ws.map fun x=>.lit (.string x)) [])
  (h:laidMet Tryz.prog ((nm,d)::r) W):GlobAt W W.heap.size gi ws:=by
 obtain ⟨ps,⟨g,t,cs,fuel,p,q,hg,ht,hv,hd,_⟩,_⟩:=h
 obtain rfl:=Option.some.inj (hgi.symm.trans hg)
 obtain rfl:=Option.some.inj (hty.symm.trans ht)
 subst hd0
 rcases open_strings Tryz.underlying105 Tryz.underlying9 (by kernel_rfl) hd with ⟨_,hx⟩ | ⟨a,len,cap,ss,hcs,_,hl,hm,hz,hx,hc,_⟩
 ·cases hx
 ·simp only[Prod.mk.injEq,DataW.slice.injEq] at hx
  obtain ⟨⟨hx1,hx2⟩,_⟩:=hx
  have hx2':ss.drop len = []:=by
   unfold strs at hx2
   exact List.map_eq_nil_iff.1 hx2.symm
  have h1:ss.take len=ss:=by
   have:=List.take_append_drop len ss
   rw[hx2',List.append_nil] at this
   exact this
  have hss:ss.map (·.data.toList)=ws:=by
   rw[h1] at hx1
   unfold strs at hx1
   have h2:(ws.map fun x=>(DataW.lit (.string x):DataW Unit))=(ss.map (·.data.toList)).map fun x=>DataW.lit (.string x):=by
    rw[hx1,List.map_map];rfl
   have hinj:∀ (l l':List (List UInt8)),(l.map fun x=>(DataW.lit (.string x):DataW Unit))=l'.map (fun x=>DataW.lit (.string x))→l=l':=by
    intro l
    induction l with
    | nil=>intro l' h;cases l' with | nil=>rfl | cons a b=>simp at h
    | cons a b ih=>
     intro l' h
     cases l' with
     | nil=>simp at h
     | cons a' b'=>
      simp only[List.map_cons,List.cons.injEq,DataW.lit.injEq,Lit.string.injEq] at h
      rw[h.1,ih b' h.2]
   exact (hinj _ _ h2).symm
  have hlss:ss.length=ws.length:=by
   have:=congrArg List.length hss
   rwa [List.length_map] at this
  rw[if_pos rfl] at hz
  have hlen:len=ws.length:=by
   have:=congrArg List.length hx2'
   rw[List.length_drop] at this
   simp only[List.length_nil] at this
   omega
  have h0:=hc 0 (by omega)
  have hsp:a.spot=none:=cell_spot (show W.cell? a=_ from h0)
  obtain ⟨ab,ao,asp⟩:=a
  simp only at hsp
  subst hsp
  have hcell:W.cell? ⟨gi,0,none⟩=some (.slice (some ⟨ab,ao,none⟩) ws.length cap):=by
   have:=World.var?_cell hg hv 0
   rw[Array.eq_one_of_toList hcs,hlen] at this
   simpa using this
  have hin:∀ (k o:Nat) (v:Value),W.cell? ⟨k,o,none⟩=some v→k < W.heap.size:=fun k o v hk=>by
   rcases Nat.lt_or_ge k W.heap.size with h | h
   ·exact h
   ·unfold World.cell? at hk
    simp only[Array.getElem?_eq_none h] at hk
    cases hk
  refine ⟨ab,ao,cap,hcell,hin _ _ _ hcell,hin ab ao _ (show W.cell? ⟨ab,ao,none⟩=_ from h0),fun i x hx=>?_⟩
  have hi:i < ss.length:=by
   have:=(List.getElem?_eq_some_iff.1 hx).1
   omega
  have h1:=hc i hi
  rw[add_none] at h1
  rw[h1]
  rw[←hss,List.getElem?_map,List.getElem?_eq_getElem hi] at hx
  simp only[Option.map_some,Option.some.injEq] at hx
  have h2:ss.getD i ByteArray.empty=ss[i]:=by simp [List.getD,List.getElem?_eq_getElem hi]
  rw[h2,←hx]
  unfold strV
  rw[Lx.bs_of]
set_option maxRecDepth 100000 in
theorem wit_metS (os:Os) (args:Array Value):laidMetH Tryz.prog Rows.syntaxPlacesRow.laid (wit os args).memory:=
 laidMetH_of_parts3 (fuel:=8) (laidMet_of_run' 8 (by kernel_rfl) (by kernel_rfl)) (by kernel_rfl) (by kernel_rfl)
theorem envs_of_laid {W:World} (h:laidMet Tryz.prog Rows.syntaxPlacesRow.laid W):EnvS W.heap.size W:=by
 have he:=env_of_laid rfl h
 have h5:=h.tail.tail.tail.tail.tail
 exact ⟨he,Nat.le_refl _,by have:=he.size;omega,
  glob_of_laid (nm := "sizar/syntax.ruleWords") (by kernel_rfl) (by kernel_rfl) (by decide) rfl h5,
  glob_of_laid (nm := "sizar/syntax.kindWords") (by kernel_rfl) (by kernel_rfl) (by decide) rfl h5.tail,
  glob_of_laid (nm := "sizar/syntax.whenWords") (by kernel_rfl) (by kernel_rfl) (by decide) rfl h5.tail.tail,
  glob_of_laid (nm := "sizar/syntax.actionWords") (by kernel_rfl) (by kernel_rfl) (by decide) rfl h5.tail.tail.tail,
  glob_of_laid (nm := "sizar/syntax.repeatWords") (by kernel_rfl) (by kernel_rfl) (by decide) rfl h5.tail.tail.tail.tail⟩
end Go.Proofs.YtjonaidancomgaaGreatDoor
