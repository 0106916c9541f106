/- Parts of the proof, joined into one text: SxUnR, SxJnR. -/
import Derived.Test.YtjonaidancomgaaGreatDoorBSxSan
import Derived.Test.YtjonaidancomgaaGreatDoorBSxKidW
import Derived.Test.YtjonaidancomgaaGreatDoorBSxPrI
import Derived.Deep.Cut
import Derived.Maps.AppendAt
import Derived.Test.YtjonaidancomgaaGreatDoorBSxAll

namespace Go.Proofs.YtjonaidancomgaaGreatDoor
open Go.RowKit

def UnPost (r:Sx.Rule) (w:World) (e:Ending) (w':World):Prop:=
 Below w.heap.size w w'∧∃ cs,e = .returned (.agg cs.toArray)∧RuleAt w' (fun b=>w.heap.size≤b∧b < w'.heap.size) r.un cs
theorem unRules_snoc:∀ (a:List Sx.Rule) (r:Sx.Rule),Sx.unRules (a++[r])=Sx.unRules a++[r.un]
 | [],r=>by simp [Sx.unRules]
 | x::a,r=>by simp [Sx.unRules,unRules_snoc a r]
theorem unRules_len:∀ (a:List Sx.Rule),(Sx.unRules a).length=a.length
 | []=>rfl
 | x::a=>by simp [Sx.unRules,unRules_len a]
set_option maxRecDepth 20000 in
set_option maxHeartbeats 4000000 in
theorem lUnR0 (op co:Int) (nm:List UInt8) (n d:Int) (ks:List Sx.Rule) (hks:∀ k∈ks,∀ (cs:List Value) (w:World),RuleAt w (Old w) k cs→Calls Tryz.prog 74 #[.agg cs.toArray] w (UnPost k w)) (hm:ks.length≤200)
  (hn:nm.length≤140737488351232) (A:Option Addr) (m c:Nat) (hm2:m=ks.length) (w:World) (hA:KidsAt w (Old w) A 0 ks) :
  Calls Tryz.prog 74 #[.agg #[.int .i64 op,.int .i64 co,.string (Lx.bs nm),.int .i64 n,.int .i64 d,.slice A m c]] w (UnPost (.mk op co nm n d ks) w):=by
 obtain ⟨i0,hi0,hz0,hz1,hz2⟩:=info_parts Tryz.infoRule
 obtain ⟨cu,hcu⟩:∃ cu,cu=Sx.unref nm co:=⟨_,rfl⟩
 have hm3:m≤200:=by omega
 obtain ⟨W1,hW1⟩:∃ W1,W1=w.alloc (.cells #[.int .i64 op,.int .i64 co,.string (Lx.bs nm),.int .i64 n,.int .i64 d,.slice A m c] 38):=⟨_,rfl⟩
 obtain ⟨W2,hW2⟩:∃ W2,W2=W1.alloc (.cells #[.int .i64 0,.int .i64 0,.string ⟨#[]⟩,.int .i64 0,.int .i64 0,.slice none 0 0] 38):=⟨_,rfl⟩
 have hs1:W1.heap.size=w.heap.size+1:=by rw [hW1];simp
 have hs2:W2.heap.size=w.heap.size+2:=by rw [hW2];simp[hs1]
 have hb1:Below w.heap.size w W1:=by rw [hW1];exact (Below.refl _ _).alloc (Nat.le_refl _) _
 have hb12:Below W1.heap.size W1 W2:=by rw [hW2];exact (Below.refl _ _).alloc (Nat.le_refl _) _
 have hb2:Below w.heap.size w W2:=hb1.trans (hb12.mono (by omega))
 have hp1:Blk W1 w.heap.size 38 #[.int .i64 op,.int .i64 co,.string (Lx.bs nm),.int .i64 n,.int .i64 d,.slice A m c]:=by rw [hW1];exact Blk.new _ _ _
 have hp:Blk W2 w.heap.size 38 #[.int .i64 op,.int .i64 co,.string (Lx.bs nm),.int .i64 n,.int .i64 d,.slice A m c]:=hp1.below hb12 hp1.lt
 have hq:Blk W2 (w.heap.size+1) 38 #[.int .i64 0,.int .i64 0,.string ⟨#[]⟩,.int .i64 0,.int .i64 0,.slice none 0 0]:=by rw [←hs1,hW2];exact Blk.new _ _ _
 have hbs:((Lx.bs nm).toList == (⟨#[]⟩:ByteArray).toList)=nm.isEmpty:=by rw [ByteArray.toList_eq,ByteArray.toList_eq,Lx.bs_list];cases nm <;> rfl
 have hbs2:(Lx.bs nm).toList.isEmpty=nm.isEmpty:=by rw [ByteArray.toList_eq,Lx.bs_list]
 have Hp:=Lh hp;have Hq:=Lh hq;have Hb2:=Lh hb2;have Hks:=Lh hks;have Hm2:=Lh hm2;have HA:=Lh hA;have Hcu:=Lh hcu
 obtain ⟨x0,x1,x2,x3,x4,x5,z1⟩:=cells6 hp
 have f1:=hp.free 1
 clear hp1 hb1 hb12 hp hq hb2 hks hm2 hA hcu
 go_enter Tryz.func74,Tryz.ntmps74
 go_upto_if 7 with fail
 rw[←hW1,←hW2]
 clear hW1 hW2
 go_cut [1,2] from 7 (fun v1 v2 wx=>v1 = .pointer (some ⟨w.heap.size,0,none⟩)∧v2 = .pointer (some ⟨w.heap.size+1,0,none⟩)∧Hid (Blk wx w.heap.size 38 #[.int .i64 op,.int .i64 cu,.string (Lx.bs nm),.int .i64 n,.int .i64 d,.slice A m c])∧Hid (Blk wx (w.heap.size+1) 38 #[.int .i64 0,.int .i64 0,.string ⟨#[]⟩,.int .i64 0,.int .i64 0,.slice none 0 0])∧Hid (Below w.heap.size w wx)∧wx.heap.size=w.heap.size+2)
 case first=>
  cases q:nm.isEmpty with
  | true=>
   go_wp2_with fail
   go_meet
   exact ⟨rfl,rfl,Lh (by rw [Hcu.out,Sx.unref,q,if_pos rfl];exact Hp.out),Hq,Hb2,hs2⟩
  | false=>
   go_wp2_with fail
   go_meet
   exact ⟨rfl,rfl,Lh (by have:=Hp.out.set 1 (.int .i64 0);rw[Hcu.out,Sx.unref,q];simpa using this),Lh (Hq.out.far (by simp) _),Lh (Hb2.out.setCell (Nat.le_refl _) _),by simp [World.setCell,hs2]⟩
 case rest=>
  clear x0 x1 x2 x3 x4 x5 f1 z1
  obtain ⟨rfl,rfl,HP,HQ,HB,hsz⟩:=hcut
  obtain ⟨x0,x1,x2,x3,x4,x5,zz⟩:=cells6 HP.out
  have hG0:GRow 0 (w.heap.size+2) 38 6 RuleAt (Sx.unRules (ks.take 0)) [] (.slice (some ⟨w.heap.size+2,0,none⟩) 0 0) (wc.alloc (.cells #[] 38)):=by
   have:=GRow.made (lo:=0) (base:=w.heap.size+2) (T:=38) (sz:=6) (P:=RuleAt) (w:=wc) (by omega)
   rw[hsz] at this
   exact this
  obtain ⟨W3,hW3⟩:∃ W3,W3=wc.alloc (.cells #[] 38):=⟨_,rfl⟩
  have hb3:Below wc.heap.size wc W3:=by rw [hW3];exact (Below.refl _ _).alloc (Nat.le_refl _) _
  rw[←hW3] at hG0
  have HG0:=Lh hG0
  have HP3:=Lh (HP.out.below hb3 HP.out.lt);have HQ3:=Lh (HQ.out.below hb3 HQ.out.lt)
  have HB3:=Lh (HB.out.trans (hb3.mono (by omega)))
  have hsz3:W3.heap.size=w.heap.size+3:=by rw [hW3];simp[hsz]
  clear hG0 hb3
  go_wp2_with fail
  rw[←hW3]
  clear x0 x1 x2 x3 x4 x5 hW3 zz
  go_loopg [3,4] m (fun gk v3 v4 wr=>∃ (i:Nat) (css:List (List Value)) (rA:Option Addr) (rc:Nat),v4 = .int .i64 i∧v3 = .slice rA i rc∧i+gk=m∧Hid (GRow 0 (w.heap.size+2) 38 6 RuleAt (Sx.unRules (ks.take i)) css (.slice rA i rc) wr)∧Hid (Below (w.heap.size+2) W3 wr))
  case atStart=>exact ⟨0,[],_,_,rfl,rfl,by omega,HG0,Lh (Below.refl _ _)⟩
  case round=>
   obtain ⟨i,css,rA,rc,rfl,rfl,hi,HG,HW⟩:=hrel
   have hgr:=HW.out.size
   obtain ⟨x0,x1,x2,x3,x4,x5,zz⟩:=cells6 (HP3.out.below HW.out (by omega))
   by_cases hlt:i < m
   ·obtain ⟨k,hk⟩:∃ k,ks[i]?=some k:=⟨_,List.getElem?_eq_getElem (by have:=Hm2.out;omega)⟩
    obtain ⟨bk,ok,cs,rfl,hS,hR,hck⟩:=kids_row.1 HA.out i k hk
    have hbw:Below w.heap.size w wr:=HB3.out.trans (HW.out.mono (by omega))
    have hbk:bk < w.heap.size:=hS
    have hbk2:bk < wr.heap.size:=by have:=hbw.size;omega
    have hcall:=Hks.out k (List.mem_of_getElem? hk) cs wr (hR.old hbw)
    obtain ⟨v0,v1,v2,v3,v4,vA,vn,vc,rfl⟩:=form_rule_low hR
    have k0:=(hbw.cell (p:=⟨bk,_,none⟩) hbk).trans (hck 0 _ rfl)
    have k1:=(hbw.cell (p:=⟨bk,_,none⟩) hbk).trans (hck 1 _ rfl)
    have k2:=(hbw.cell (p:=⟨bk,_,none⟩) hbk).trans (hck 2 _ rfl)
    have k3:=(hbw.cell (p:=⟨bk,_,none⟩) hbk).trans (hck 3 _ rfl)
    have k4:=(hbw.cell (p:=⟨bk,_,none⟩) hbk).trans (hck 4 _ rfl)
    have k5:=(hbw.cell (p:=⟨bk,_,none⟩) hbk).trans (hck 5 _ rfl)
    simp only[Nat.add_zero] at k0 k1 k2 k3 k4 k5
    have Hcall:=Lh hcall
    have Hk:=Lh hk
    clear hcall hR hck hk hbw
    go_wp2_with fail
    refine Hcall.out.mono ?_
    rintro e w5 ⟨hb5,cs',rfl,hR⟩
    obtain ⟨y0,y1,y2,y3,y4,yA,yn,yc,rfl⟩:=form_rule_low hR
    have hn5:(Sx.unRules (ks.take i)).length=i:=by rw [unRules_len,List.length_take];have:=Hm2.out;omega
    have hG5:=HG.out.next keep_rule hb5
    have hW5:Below (w.heap.size+2) W3 w5:=HW.out.trans (hb5.mono (by omega))
    have hs5:=hb5.size
    obtain ⟨W6,hW6⟩:∃ W6,W6=w5.alloc (.cells #[.int .i64 y0,.int .i64 y1,.string y2,.int .i64 y3,.int .i64 y4,.slice yA yn yc] 38):=⟨_,rfl⟩
    have hb6:Below w5.heap.size w5 W6:=by rw [hW6];exact (Below.refl _ _).alloc (Nat.le_refl _) _
    have hG6:=hG5.next keep_rule hb6
    have hx6:Blk W6 w5.heap.size 38 #[.int .i64 y0,.int .i64 y1,.string y2,.int .i64 y3,.int .i64 y4,.slice yA yn yc]:=by rw [hW6];exact Blk.new _ _ _
    have hR6:RuleAt W6 (GS 0 (w.heap.size+2) (.slice rA i rc) W6) k.un [.int .i64 y0,.int .i64 y1,.string y2,.int .i64 y3,.int .i64 y4,.slice yA yn yc]:=RuleAt.keep (fun b hb=>⟨⟨.inr (by have:=hb.1;omega),Nat.lt_of_lt_of_le hb.2 hb6.size,fun e=>by have:=own_lt HG.out.own e;have:=hb.1;omega⟩,fun j=>hb6.cell (p:=⟨b,j,none⟩) hb.2⟩) _ _ hR
    have HG6:=Lh hG6;have HR6:=Lh hR6;have Hx6:=Lh hx6;have HW6:=Lh (hW5.trans (hb6.mono (by omega)));have Hn5:=Lh hn5
    have hs6:=hb6.size
    clear hG5 hG6 hR hR6 hx6 hb5 hb6 hn5 hW5 k0 k1 k2 k3 k4 k5
    go_wp2_with (at_builtin;rw[←hW6];refine wpList_append_own_at _ rfl (.tmp 17) (.tmp 24) 36 rfl (w.heap.size+2) 38 i0 _ 6 72 Tryz.underlying36 hi0 hz0 hz1 hz2 rfl (by decide) (.slice rA i rc) i css.flatten rfl (by have:=HG6.out.own;rwa [Hn5.out] at this) ⟨w5.heap.size,0,none⟩ 1 1 [.int .i64 y0,.int .i64 y1,.string y2,.int .i64 y3,.int .i64 y4,.slice yA yn yc] rfl rfl (World.news_of_block (cs:=#[.int .i64 y0,.int .i64 y1,.string y2,.int .i64 y3,.int .i64 y4,.slice yA yn yc]) (t:=38) (fr:=(0,0)) Hx6.out) (by simp [Value.oneCell']) (by unfold maxLen;omega) (by omega) (by omega) ?_;intro v' w7 hown hgrow _ hat;obtain ⟨rB,rd,rfl,-⟩:=own_slice hown;have HG7:=Lh (HG6.out.grow keep_rule HR6.out (by rw [Hn5.out];exact hown) hgrow hat);have HW7:=Lh (Below.grown HW6.out hgrow (by omega) (fun z hz=>by have:=own_ge HG6.out.own hz;omega));clear hown hgrow hat)
    go_roundg (gk - 1)
    all_goals first
     | omega
     | exact ⟨i+1,_,rB,rd,by go_num,rfl,by omega,Lh (by
       have:=HG7.out
       rw[List.take_add_one,Hk.out,Option.toList_some,unRules_snoc]
       exact this),HW7⟩
   ·obtain rfl:i=m:=by omega
    have hf:=frees6 (HP3.out.below HW.out (by omega))
    have hg:=frees6 (HQ3.out.below HW.out (by omega))
    obtain ⟨f0,f1,f2,f3,f4,f5⟩:=hf
    obtain ⟨g0,g1,g2,g3,g4,g5⟩:=hg
    have hne:w.heap.size+1 < wr.heap.size:=by omega
    obtain ⟨q0,q1,q2,q3,q4,q5,qq⟩:=cells6 (HQ3.out.below HW.out (by omega))
    obtain ⟨W9,hW9⟩:∃ W9,W9=(((((((wr.setCell ⟨w.heap.size,5,none⟩ (.slice rA i rc)).setCell ⟨w.heap.size+1,0,none⟩ (.int .i64 op)).setCell ⟨w.heap.size+1,1,none⟩ (.int .i64 cu)).setCell ⟨w.heap.size+1,2,none⟩ (.string (Lx.bs nm))).setCell ⟨w.heap.size+1,3,none⟩ (.int .i64 n)).setCell ⟨w.heap.size+1,4,none⟩ (.int .i64 d)).setCell ⟨w.heap.size+1,5,none⟩ (.slice rA i rc)):=⟨_,rfl⟩
    have hq9:Blk W9 (w.heap.size+1) 38 #[.int .i64 op,.int .i64 cu,.string (Lx.bs nm),.int .i64 n,.int .i64 d,.slice rA i rc]:=by
     have:=((((((((HQ3.out.below HW.out (by omega)).far (p:=⟨w.heap.size,5,none⟩) (by simp) (.slice rA i rc)).set 0 (.int .i64 op)).set 1 (.int .i64 cu)).set 2 (.string (Lx.bs nm))).set 3 (.int .i64 n)).set 4 (.int .i64 d)).set 5 (.slice rA i rc))
     rw[hW9];simpa using this
    have hb9:Below w.heap.size w W9:=by rw [hW9];exact (Below.setCell (p:=⟨w.heap.size+1,5,none⟩) (Below.setCell (p:=⟨w.heap.size+1,4,none⟩) (Below.setCell (p:=⟨w.heap.size+1,3,none⟩) (Below.setCell (p:=⟨w.heap.size+1,2,none⟩) (Below.setCell (p:=⟨w.heap.size+1,1,none⟩) (Below.setCell (p:=⟨w.heap.size+1,0,none⟩) (Below.setCell (p:=⟨w.heap.size,5,none⟩) (HB3.out.trans (HW.out.mono (by omega))) (Nat.le_refl _) (.slice rA i rc)) (Nat.le_succ _) (.int .i64 op)) (Nat.le_succ _) (.int .i64 cu)) (Nat.le_succ _) (.string (Lx.bs nm))) (Nat.le_succ _) (.int .i64 n)) (Nat.le_succ _) (.int .i64 d)) (Nat.le_succ _) (.slice rA i rc))
    have hk9:∀ k,k≠w.heap.size→k≠w.heap.size+1→W9.heap[k]?=wr.heap[k]?:=fun k h1 h2=>by rw [hW9];exact ((Below.heap_setCell _ ⟨w.heap.size+1,5,none⟩ (.slice rA i rc) k h2).trans ((Below.heap_setCell _ ⟨w.heap.size+1,4,none⟩ (.int .i64 d) k h2).trans ((Below.heap_setCell _ ⟨w.heap.size+1,3,none⟩ (.int .i64 n) k h2).trans ((Below.heap_setCell _ ⟨w.heap.size+1,2,none⟩ (.string (Lx.bs nm)) k h2).trans ((Below.heap_setCell _ ⟨w.heap.size+1,1,none⟩ (.int .i64 cu) k h2).trans ((Below.heap_setCell _ ⟨w.heap.size+1,0,none⟩ (.int .i64 op) k h2).trans (Below.heap_setCell wr ⟨w.heap.size,5,none⟩ (.slice rA i rc) k h1)))))))
    have hs9:W9.heap.size=wr.heap.size:=by rw [hW9];simp[World.setCell]
    have hG9:=HG.out.keep keep_rule (Nat.le_of_eq hs9.symm) (fun k _ hk=>hk9 k (by omega) (by omega))
    have hl9:Sx.unRules (ks.take i)=Sx.unRules ks:=by rw [Hm2.out,List.take_length]
    rw[hl9] at hG9
    have hn9:(Sx.unRules ks).length=i:=by rw [unRules_len,←Hm2.out]
    obtain ⟨rB,rd,hv,hrow⟩:=hG9.row keep_rule (fun _ _ _ _ h=>RuleAt.length h) (by omega)
    have hfin:RuleAt W9 (fun b=>w.heap.size≤b∧b < W9.heap.size) (Sx.Rule.mk op co nm n d ks).un [.int .i64 op,.int .i64 cu,.string (Lx.bs nm),.int .i64 n,.int .i64 d,.slice rA i rc]:=by
     rw[Sx.Rule.un,RuleAt]
     injection hv with e1 e2 e3
     refine ⟨rA,rc,by rw [hn9,←Hcu.out];rfl,hn,by omega,kids_row.2 fun j y hj=>?_⟩
     obtain ⟨b,o,cs,e,hS,hP,hC⟩:=hrow.at_ j y hj
     exact ⟨b,o,cs,e1.trans e,⟨by have:=hS.1;omega,hS.2⟩,RuleAt.keep (fun b hb=>⟨⟨by have:=hb.1;omega,hb.2⟩,fun _=>rfl⟩) _ _ hP,hC⟩
    have Hfin:=Lh hfin;have Hq9:=Lh hq9;have Hb9:=Lh hb9;have HW9:=Lh hW9
    clear hfin hq9 hb9 hW9 hk9 hs9 hG9 hl9 hn9 hv hrow
    go_wp2_with fail
    rw[←HW9.out]
    obtain ⟨t0,t1,t2,t3,t4,t5,tt⟩:=cells6 Hq9.out
    first
     | (go_ret;exact ⟨Hb9.out,_,rfl,Hfin.out⟩)
     | (refine bodyPost_ret (v:=.agg #[.int .i64 op,.int .i64 cu,.string (Lx.bs nm),.int .i64 n,.int .i64 d,.slice rA i rc]) (by simp [results,Tryz.results74,go_sem,t0,t1,t2,t3,t4,t5]) rfl ⟨Hb9.out,_,rfl,Hfin.out⟩)
theorem lUnR:∀ (k:Nat) (r:Sx.Rule),Sx.ruleOk k r=true→∀ (cs:List Value) (w:World),RuleAt w (Old w) r cs→Calls Tryz.prog 74 #[.agg cs.toArray] w (UnPost r w)
 | 0,r,h,_,_,_=>by cases r;simp[Sx.ruleOk] at h
 | k+1,.mk op co nm n d ks,h,cs,w,hR=>by
  rw[Sx.ruleOk] at h
  simp only[Bool.and_eq_true,decide_eq_true_eq] at h
  rw[RuleAt] at hR
  obtain ⟨A,c,rfl,hn,-,hA⟩:=hR
  exact lUnR0 op co nm n d ks (fun q hq=>lUnR k q (Sx.rulesOk_mem h.1.2 q hq)) h.1.1 hn A _ c rfl w hA
end Go.Proofs.YtjonaidancomgaaGreatDoor

namespace Go.Proofs.YtjonaidancomgaaGreatDoor
open Go.RowKit

theorem Tryz.infoCourse:(Tryz.prog.info? 58).map (fun i=>(i.zero,i.size,i.bytes))=some (some (.agg #[.string ⟨#[]⟩,.int .i64 0,.int .i64 0,.int .i64 0,.int .i64 0,.int .i64 0,.string ⟨#[]⟩,.int .i64 0,.int .i64 0,.slice none 0 0,.int .i64 0,.int .i64 0,.string ⟨#[]⟩,.int .i64 0,.int .i64 0,.slice none 0 0]),16,184):=by kernel_rfl
theorem Tryz.underCourse:Tryz.prog.underlying 23=some (.slice 58):=by kernel_rfl
theorem Tryz.infoPairJ:(Tryz.prog.info? 71).map (fun i=>(i.zero,i.size,i.bytes))=some (some (.agg #[.string ⟨#[]⟩,.string ⟨#[]⟩,.int .i64 0,.int .i64 0]),4,48):=by kernel_rfl
theorem Tryz.underPair:Tryz.prog.underlying 24=some (.slice 71):=by kernel_rfl
theorem Tryz.infoProg:(Tryz.prog.info? 78).map (fun i=>(i.zero,i.size,i.bytes))=some (some (.agg #[.string ⟨#[]⟩,.int .i64 0,.int .i64 0,.int .i64 0,.int .i64 0,.int .i64 0,.slice none 0 0]),7,80):=by kernel_rfl
theorem Tryz.underProg:Tryz.prog.underlying 25=some (.slice 78):=by kernel_rfl
theorem one_course {w:World} {S:Nat→Prop} {x:Sx.Course} {cs:List Value} (h:CourseAt w S x cs):cs.length=16∧∀ u∈cs,u.oneCell'=true:=by
 obtain ⟨_,_,_,_,_,_,_,_,_,_,_,_,_,_,_,_,_,_,_,_,rfl⟩:=form_course h
 exact ⟨rfl,by simp [Value.oneCell']⟩
theorem one_pair {x:Sx.Pair} {cs:List Value} (h:PairAt x cs):cs.length=4∧∀ u∈cs,u.oneCell'=true:=by
 obtain ⟨_,_,_,_,rfl⟩:=form_pair h
 exact ⟨rfl,by simp [Value.oneCell']⟩
theorem one_prog {w:World} {S:Nat→Prop} {x:Sx.Prog} {cs:List Value} (h:ProgAt w S x cs):cs.length=7∧∀ u∈cs,u.oneCell'=true:=by
 obtain ⟨_,_,_,_,_,_,_,_,_,rfl⟩:=form_prog h
 exact ⟨rfl,by simp [Value.oneCell']⟩
end Go.Proofs.YtjonaidancomgaaGreatDoor
