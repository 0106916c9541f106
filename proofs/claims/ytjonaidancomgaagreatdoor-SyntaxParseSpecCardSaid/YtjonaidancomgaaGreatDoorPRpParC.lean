/- Parts of the proof, joined into one text: RpParC, RpParD. -/
import Derived.Test.YtjonaidancomgaaGreatDoorPSxSanL
import Derived.Deep.Cut
import Derived.Test.YtjonaidancomgaaGreatDoorPSxParB

namespace Go.Proofs.YtjonaidancomgaaGreatDoor
open Go.RowKit

set_option maxRecDepth 20000 in
set_option maxHeartbeats 1000000 in
theorem pWord (T:List Lx.Tok) (A:Option Addr) (c:Nat) (last:Int) (x:ByteArray) (s:Sx.R Unit) (k e p:Int) (w:World) (hc:PCtx T A w) (hp:PAt T s k e p) :
    Calls Tryz.prog 94 #[pv A T.length c k last e p,.string x] w (PPost T A c last (Sx.go s (Sx.need last 1 x.data.toList)) w):=by
  have Hcall:=Lh (fun w' h=>pExpect T A c last 1 x s k e p w' h hp)
  obtain ⟨n,hn⟩:∃ n,n=T.length:=⟨_,rfl⟩
  obtain ⟨R,hR⟩:∃ R,R=Sx.go s (Sx.need last 1 x.data.toList):=⟨_,rfl⟩
  unfold PPost at Hcall ⊢
  rw[←hR] at Hcall ⊢
  rw[←hn] at Hcall ⊢
  have HC:=Lh hc
  unfold pv at Hcall ⊢
  obtain ⟨W1,W2,hW1,hW2,p1,p2,hb,hsz⟩:=pbox w (.slice A n c) (.int .i64 k) (.int .i64 last) (.int .i64 e) (.int .i64 p)
  have HB:=Lh hb;have HQ:=Lh p2
  obtain ⟨x0,x1,x2,x3,x4,xz⟩:=cells5 p1
  clear hc hp hn hR hb p1 p2
  go_enter Tryz.func94,Tryz.ntmps94
  go_upto_region 1 with fail
  rw[←hW1,←hW2]
  clear hW1 hW2
  go_wp2_with fail
  refine (Hcall.out _ (HC.out.next HB.out)).mono ?_
  rintro e' w2 ⟨k',x',p',rfl,ha,hb⟩
  have hg:=hb.size
  have HB2:=Lh (HB.out.trans (hb.mono HB.out.size));have HQ2:=Lh (HQ.out.below hb (by omega));have HA:=Lh ha
  obtain ⟨y0,y1,y2,y3,y4,yz⟩:=cells5 HQ2.out
  obtain ⟨f0,f1,f2,f3,f4⟩:=frees5 HQ2.out
  obtain ⟨W9,hW9,t,hb9⟩:=pstore HQ2.out (.slice A n c) (.int .i64 k') (.int .i64 last) (.int .i64 x') (.int .i64 p')
  have HB9:=Lh (hb9 w.heap.size w HB2.out (by omega));have HT:=Lh t;have HW9:=Lh hW9
  clear hb ha x0 x1 x2 x3 x4 xz t hb9 hW9
  go_wp2_with fail
  rw[←HW9.out]
  obtain ⟨t0,t1,t2,t3,t4,tz⟩:=HT.out
  exact bodyPost_ret (v:=pv A n c k' last x' p') (by simp [results,Tryz.results94,go_sem,pv,t0,t1,t2,t3,t4]) rfl ⟨_,_,_,rfl,HA.out,HB9.out⟩
set_option maxRecDepth 20000 in
set_option maxHeartbeats 1000000 in
theorem pSign (T:List Lx.Tok) (A:Option Addr) (c:Nat) (last:Int) (x:ByteArray) (s:Sx.R Unit) (k e p:Int) (w:World) (hc:PCtx T A w) (hp:PAt T s k e p) :
    Calls Tryz.prog 96 #[pv A T.length c k last e p,.string x] w (PPost T A c last (Sx.go s (Sx.need last 3 x.data.toList)) w):=by
  have Hcall:=Lh (fun w' h=>pExpect T A c last 3 x s k e p w' h hp)
  obtain ⟨n,hn⟩:∃ n,n=T.length:=⟨_,rfl⟩
  obtain ⟨R,hR⟩:∃ R,R=Sx.go s (Sx.need last 3 x.data.toList):=⟨_,rfl⟩
  unfold PPost at Hcall ⊢
  rw[←hR] at Hcall ⊢
  rw[←hn] at Hcall ⊢
  have HC:=Lh hc
  unfold pv at Hcall ⊢
  obtain ⟨W1,W2,hW1,hW2,p1,p2,hb,hsz⟩:=pbox w (.slice A n c) (.int .i64 k) (.int .i64 last) (.int .i64 e) (.int .i64 p)
  have HB:=Lh hb;have HQ:=Lh p2
  obtain ⟨x0,x1,x2,x3,x4,xz⟩:=cells5 p1
  clear hc hp hn hR hb p1 p2
  go_enter Tryz.func96,Tryz.ntmps96
  go_upto_region 1 with fail
  rw[←hW1,←hW2]
  clear hW1 hW2
  go_wp2_with fail
  refine (Hcall.out _ (HC.out.next HB.out)).mono ?_
  rintro e' w2 ⟨k',x',p',rfl,ha,hb⟩
  have hg:=hb.size
  have HB2:=Lh (HB.out.trans (hb.mono HB.out.size));have HQ2:=Lh (HQ.out.below hb (by omega));have HA:=Lh ha
  obtain ⟨y0,y1,y2,y3,y4,yz⟩:=cells5 HQ2.out
  obtain ⟨f0,f1,f2,f3,f4⟩:=frees5 HQ2.out
  obtain ⟨W9,hW9,t,hb9⟩:=pstore HQ2.out (.slice A n c) (.int .i64 k') (.int .i64 last) (.int .i64 x') (.int .i64 p')
  have HB9:=Lh (hb9 w.heap.size w HB2.out (by omega));have HT:=Lh t;have HW9:=Lh hW9
  clear hb ha x0 x1 x2 x3 x4 xz t hb9 hW9
  go_wp2_with fail
  rw[←HW9.out]
  obtain ⟨t0,t1,t2,t3,t4,tz⟩:=HT.out
  exact bodyPost_ret (v:=pv A n c k' last x' p') (by simp [results,Tryz.results96,go_sem,pv,t0,t1,t2,t3,t4]) rfl ⟨_,_,_,rfl,HA.out,HB9.out⟩
theorem pSg (T:List Lx.Tok) (A:Option Addr) (c:Nat) (last:Int) (x:UInt8) (s:Sx.R Unit) (k e p:Int) (w:World) (hc:PCtx T A w) (hp:PAt T s k e p) :
    Calls Tryz.prog 96 #[pv A T.length c k last e p,.string ⟨#[x]⟩] w (PPost T A c last (Sx.go s (Sx.sign last x)) w):=pSign T A c last ⟨#[x]⟩ s k e p w hc hp
def vStrs (_:World) (a:List UInt8) (vs:List Value):Prop:=vs = [strV a]∧a.length≤140737488351232
def vInts (_:World) (a:Int) (vs:List Value):Prop:=vs = [intV a]
set_option maxRecDepth 20000 in
set_option maxHeartbeats 1000000 in
theorem pName (T:List Lx.Tok) (A:Option Addr) (c:Nat) (last:Int) (s:Sx.R Unit) (k e p:Int) (w:World) (hc:PCtx T A w) (hp:PAt T s k e p) :
    Calls Tryz.prog 95 #[pv A T.length c k last e p] w (PRead T A c last vStrs (Sx.go s (Sx.name last)) w):=by
  have Hfail:=Lh (fun w' h=>pFail T A c last 100 (by decide) s k e p w' h hp)
  have hlen:=hc.toks.len
  obtain ⟨R,hR⟩:∃ R,R=Sx.go s (Sx.name last):=⟨_,rfl⟩
  obtain ⟨n,hn⟩:∃ n,n=T.length:=⟨_,rfl⟩
  rw[←hR]
  unfold PRead
  unfold PPost at Hfail
  rw[←hn] at Hfail hlen ⊢
  have HC:=Lh hc
  unfold pv at Hfail ⊢
  rcases hp.cases with ⟨rfl,hy⟩ | ⟨rfl,rfl,rfl,hkn⟩ | ⟨j,t,rfl,rfl,rfl,rfl,hj,ht⟩
  · have HV:Hid (R.Val []):=Lh (by rw [hR];exact .of_bad _ _ _)
    rw[show Sx.go (.bad p e) (fun l=>(Sx.fail last l 100:Sx.R Unit))=R.void by rw [hR];rfl] at Hfail
    have hy2:(e == 0)=false:=by simpa using hy
    have hy3:(e != 0)=true:=by simpa using hy
    obtain ⟨W1,W2,hW1,hW2,p1,p2,hb,hsz⟩:=pbox w (.slice A n c) (.int .i64 k) (.int .i64 last) (.int .i64 e) (.int .i64 p)
    have HB:=Lh hb;have HP:=Lh p1;have HQ:=Lh p2
    obtain ⟨x0,x1,x2,x3,x4,xz⟩:=cells5 p1
    clear hc hp hn hR hb p1 p2
    go_enter Tryz.func95,Tryz.ntmps95
    go_upto_region 1 with fail
    rw[←hW1,←hW2]
    clear hW1 hW2
    go_wp2_with fail
    refine (Hfail.out _ (HC.out.next HB.out)).mono ?_
    rintro e' w2 ⟨k',x',p',rfl,ha,hb⟩
    have hg:=hb.size
    have HB2:=Lh (HB.out.trans (hb.mono HB.out.size));have HQ2:=Lh (HQ.out.below hb (by omega));have HA:=Lh ha
    obtain ⟨y0,y1,y2,y3,y4,yz⟩:=cells5 HQ2.out
    obtain ⟨f0,f1,f2,f3,f4⟩:=frees5 HQ2.out
    obtain ⟨W9,hW9,t,hb9⟩:=pstore HQ2.out (.slice A n c) (.int .i64 k') (.int .i64 last) (.int .i64 x') (.int .i64 p')
    have HB9:=Lh (hb9 w.heap.size w HB2.out (by omega));have HT:=Lh t;have HW9:=Lh hW9
    clear hb ha x0 x1 x2 x3 x4 xz t hb9 hW9
    go_wp2_with fail
    rw[←HW9.out]
    obtain ⟨t0,t1,t2,t3,t4,tz⟩:=HT.out
    exact bodyPost_ret (v:=.tuple #[.string ⟨#[]⟩,pv A n c k' last x' p']) (by simp [results,Tryz.results95,go_sem,pv,t0,t1,t2,t3,t4]) rfl ⟨[],_,_,_,_,rfl,HV.out,⟨rfl,by simp⟩,HA.out,HB9.out⟩
  · have HV:Hid (R.Val []):=Lh (by rw [hR];exact .of_bad _ _ _)
    rw[show Sx.go (.ok () []) (fun l=>(Sx.fail last l 100:Sx.R Unit))=R.void by rw [hR];rfl] at Hfail
    rw[←hn] at hkn
    subst hkn
    have hz:¬ (n:Int) < n:=by omega
    have hz2:(n:Int)≥n:=by omega
    obtain ⟨W1,W2,hW1,hW2,p1,p2,hb,hsz⟩:=pbox w (.slice A n c) (.int .i64 n) (.int .i64 last) (.int .i64 0) (.int .i64 0)
    have HB:=Lh hb;have HP:=Lh p1;have HQ:=Lh p2
    obtain ⟨x0,x1,x2,x3,x4,xz⟩:=cells5 p1
    clear hc hp hn hR hb p1 p2
    go_enter Tryz.func95,Tryz.ntmps95
    go_upto_region 1 with fail
    rw[←hW1,←hW2]
    clear hW1 hW2
    go_wp2_with fail
    refine (Hfail.out _ (HC.out.next HB.out)).mono ?_
    rintro e' w2 ⟨k',x',p',rfl,ha,hb⟩
    have hg:=hb.size
    have HB2:=Lh (HB.out.trans (hb.mono HB.out.size));have HQ2:=Lh (HQ.out.below hb (by omega));have HA:=Lh ha
    obtain ⟨y0,y1,y2,y3,y4,yz⟩:=cells5 HQ2.out
    obtain ⟨f0,f1,f2,f3,f4⟩:=frees5 HQ2.out
    obtain ⟨W9,hW9,t,hb9⟩:=pstore HQ2.out (.slice A n c) (.int .i64 k') (.int .i64 last) (.int .i64 x') (.int .i64 p')
    have HB9:=Lh (hb9 w.heap.size w HB2.out (by omega));have HT:=Lh t;have HW9:=Lh hW9
    clear hb ha x0 x1 x2 x3 x4 xz t hb9 hW9
    go_wp2_with fail
    rw[←HW9.out]
    obtain ⟨t0,t1,t2,t3,t4,tz⟩:=HT.out
    exact bodyPost_ret (v:=.tuple #[.string ⟨#[]⟩,pv A n c k' last x' p']) (by simp [results,Tryz.results95,go_sem,pv,t0,t1,t2,t3,t4]) rfl ⟨[],_,_,_,_,rfl,HV.out,⟨rfl,by simp⟩,HA.out,HB9.out⟩
  · obtain ⟨b,o,rfl,hb0,q0,q1,q2,q3⟩:=hc.tok ht
    have hj2:j < n:=by omega
    have hj3:¬ (j:Int)≥n:=by omega
    cases hk:(t.kind != 1) with
    | true=>
      have e0:Sx.name last (t::T.drop (j+1))=Sx.fail last (t::T.drop (j+1)) 100:=by
        have hk2:¬ t.kind=1:=by simpa using hk
        unfold Sx.name;simp only;rw[if_neg hk2]
      have HV:Hid (R.Val []):=Lh (by rw [hR,Sx.goOk,e0];exact .of_bad _ _ _)
      rw[show Sx.go (.ok () (t::T.drop (j+1))) (fun l=>(Sx.fail last l 100:Sx.R Unit))=R.void by rw [hR,Sx.goOk,Sx.goOk,e0];rfl] at Hfail
      obtain ⟨W1,W2,hW1,hW2,p1,p2,hb,hsz⟩:=pbox w (.slice (some ⟨b,o,none⟩) n c) (.int .i64 j) (.int .i64 last) (.int .i64 0) (.int .i64 0)
      have HB:=Lh hb;have HP:=Lh p1;have HQ:=Lh p2
      obtain ⟨x0,x1,x2,x3,x4,xz⟩:=cells5 p1
      have q0':=(HB.out.cell (p:=⟨b,_,none⟩) hb0).trans q0
      have q1':=(HB.out.cell (p:=⟨b,_,none⟩) hb0).trans q1
      have q2':=(HB.out.cell (p:=⟨b,_,none⟩) hb0).trans q2
      have hb0':b < W2.heap.size:=by omega
      clear q0 q1 q2 q3
      clear hc hp hn hR hb p1 p2 ht
      go_enter Tryz.func95,Tryz.ntmps95
      go_upto_region 1 with fail
      rw[←hW1,←hW2]
      clear hW1 hW2
      clear e0
      go_wp2_with fail
      refine (Hfail.out _ (HC.out.next HB.out)).mono ?_
      rintro e' w2 ⟨k',x',p',rfl,ha,hb⟩
      have hg:=hb.size
      have HB2:=Lh (HB.out.trans (hb.mono HB.out.size));have HQ2:=Lh (HQ.out.below hb (by omega));have HA:=Lh ha
      obtain ⟨y0,y1,y2,y3,y4,yz⟩:=cells5 HQ2.out
      obtain ⟨f0,f1,f2,f3,f4⟩:=frees5 HQ2.out
      obtain ⟨W9,hW9,t,hb9⟩:=pstore HQ2.out (.slice (some ⟨b,o,none⟩) n c) (.int .i64 k') (.int .i64 last) (.int .i64 x') (.int .i64 p')
      have HB9:=Lh (hb9 w.heap.size w HB2.out (by omega));have HT:=Lh t;have HW9:=Lh hW9
      clear hb ha x0 x1 x2 x3 x4 xz t hb9 hW9
      go_wp2_with fail
      rw[←HW9.out]
      obtain ⟨t0,t1,t2,t3,t4,tz⟩:=HT.out
      exact bodyPost_ret (v:=.tuple #[.string ⟨#[]⟩,pv (some ⟨b,o,none⟩) n c k' last x' p']) (by simp [results,Tryz.results95,go_sem,pv,t0,t1,t2,t3,t4]) rfl ⟨[],_,_,_,_,rfl,HV.out,⟨rfl,by simp⟩,HA.out,HB9.out⟩
    | false=>
      have hk2:t.kind=1:=by simpa using hk
      have e0:Sx.name last (t::T.drop (j+1)) = .ok t.text (T.drop (j+1)):=by unfold Sx.name;simp only;rw[if_pos hk2]
      have HL:=Lh (hc.toks.texts t (List.mem_of_getElem? ht))
      have HV:Hid (R.Val t.text):=Lh (by rw [hR,Sx.goOk,e0];exact .of_ok _ _)
      have HR:Hid (PAt T R.void ((j:Int)+1) 0 0):=Lh (by rw [hR,Sx.goOk,e0];exact PAt.tail hj)
      obtain ⟨W1,W2,hW1,hW2,p1,p2,hb,hsz⟩:=pbox w (.slice (some ⟨b,o,none⟩) n c) (.int .i64 j) (.int .i64 last) (.int .i64 0) (.int .i64 0)
      have HB:=Lh hb;have HP:=Lh p1;have HQ:=Lh p2
      obtain ⟨x0,x1,x2,x3,x4,xz⟩:=cells5 p1
      obtain ⟨e0',e1,e2,e3,e4⟩:=frees5 p1
      obtain ⟨f0,f1,f2,f3,f4⟩:=frees5 p2
      obtain ⟨y0,y1,y2,y3,y4,yz⟩:=cells5 p2
      clear Hfail e0
      clear hk2
      have q0':=(HB.out.cell (p:=⟨b,_,none⟩) hb0).trans q0
      have q1':=(HB.out.cell (p:=⟨b,_,none⟩) hb0).trans q1
      have q2':=(HB.out.cell (p:=⟨b,_,none⟩) hb0).trans q2
      have hb0':b < W2.heap.size:=by omega
      clear q0 q1 q2 q3
      clear hc hp hn hR hb p1 p2 ht
      go_enter Tryz.func95,Tryz.ntmps95
      go_upto_region 1 with fail
      rw[←hW1,←hW2]
      clear hW1 hW2
      go_wp2_with fail
      go_region
      obtain ⟨W9,hW9,hT,hb9⟩:=pstore (HQ.out.far (p:=⟨w.heap.size,1,none⟩) (by simp) (.int .i64 ((j:Int)+1))) (.slice (some ⟨b,o,none⟩) n c) (.int .i64 ((j:Int)+1)) (.int .i64 last) (.int .i64 0) (.int .i64 0)
      rw[←hW9]
      have HB9:=Lh (hb9 w.heap.size w (HB.out.setCell (Nat.le_refl _) _) (by omega)).drew
      obtain ⟨t0,t1,t2,t3,t4,tz⟩:=hT
      go_wp2_with fail
      exact bodyPost_ret (v:=.tuple #[.string (Lx.bs t.text),pv (some ⟨b,o,none⟩) n c ((j:Int)+1) last 0 0]) (by simp [results,Tryz.results95,go_sem,pv,t0,t1,t2,t3,t4]) rfl ⟨_,[.string (Lx.bs t.text)],_,_,_,rfl,HV.out,⟨rfl,HL.out⟩,HR.out,HB9.out⟩
set_option maxRecDepth 20000 in
set_option maxHeartbeats 1000000 in
theorem pNumber (T:List Lx.Tok) (A:Option Addr) (c:Nat) (last:Int) (lo hi:Int) (s:Sx.R Unit) (k e p:Int) (w:World) (hc:PCtx T A w) (hp:PAt T s k e p) :
    Calls Tryz.prog 93 #[pv A T.length c k last e p,.int .i64 lo,.int .i64 hi] w (PRead T A c last vInts (Sx.go s (Sx.number last lo hi)) w):=by
  have Hfail:=Lh (fun w' h=>pFail T A c last 100 (by decide) s k e p w' h hp)
  have hlen:=hc.toks.len
  obtain ⟨R,hR⟩:∃ R,R=Sx.go s (Sx.number last lo hi):=⟨_,rfl⟩
  obtain ⟨n,hn⟩:∃ n,n=T.length:=⟨_,rfl⟩
  rw[←hR]
  unfold PRead
  unfold PPost at Hfail
  rw[←hn] at Hfail hlen ⊢
  have HC:=Lh hc
  unfold pv at Hfail ⊢
  rcases hp.cases with ⟨rfl,hy⟩ | ⟨rfl,rfl,rfl,hkn⟩ | ⟨j,t,rfl,rfl,rfl,rfl,hj,ht⟩
  · have HV:Hid (R.Val (0:Int)):=Lh (by rw [hR];exact .of_bad _ _ _)
    rw[show Sx.go (.bad p e) (fun l=>(Sx.fail last l 100:Sx.R Unit))=R.void by rw [hR];rfl] at Hfail
    have hy2:(e == 0)=false:=by simpa using hy
    have hy3:(e != 0)=true:=by simpa using hy
    obtain ⟨W1,W2,hW1,hW2,p1,p2,hb,hsz⟩:=pbox w (.slice A n c) (.int .i64 k) (.int .i64 last) (.int .i64 e) (.int .i64 p)
    have HB:=Lh hb;have HP:=Lh p1;have HQ:=Lh p2
    obtain ⟨x0,x1,x2,x3,x4,xz⟩:=cells5 p1
    clear hc hp hn hR hb p1 p2
    go_enter Tryz.func93,Tryz.ntmps93
    go_upto_region 1 with fail
    rw[←hW1,←hW2]
    clear hW1 hW2
    go_wp2_with fail
    refine (Hfail.out _ (HC.out.next HB.out)).mono ?_
    rintro e' w2 ⟨k',x',p',rfl,ha,hb⟩
    have hg:=hb.size
    have HB2:=Lh (HB.out.trans (hb.mono HB.out.size));have HQ2:=Lh (HQ.out.below hb (by omega));have HA:=Lh ha
    obtain ⟨y0,y1,y2,y3,y4,yz⟩:=cells5 HQ2.out
    obtain ⟨f0,f1,f2,f3,f4⟩:=frees5 HQ2.out
    obtain ⟨W9,hW9,t,hb9⟩:=pstore HQ2.out (.slice A n c) (.int .i64 k') (.int .i64 last) (.int .i64 x') (.int .i64 p')
    have HB9:=Lh (hb9 w.heap.size w HB2.out (by omega));have HT:=Lh t;have HW9:=Lh hW9
    clear hb ha x0 x1 x2 x3 x4 xz t hb9 hW9
    go_wp2_with fail
    rw[←HW9.out]
    obtain ⟨t0,t1,t2,t3,t4,tz⟩:=HT.out
    exact bodyPost_ret (v:=.tuple #[.int .i64 0,pv A n c k' last x' p']) (by simp [results,Tryz.results93,go_sem,pv,t0,t1,t2,t3,t4]) rfl ⟨(0:Int),_,_,_,_,rfl,HV.out,rfl,HA.out,HB9.out⟩
  · have HV:Hid (R.Val (0:Int)):=Lh (by rw [hR];exact .of_bad _ _ _)
    rw[show Sx.go (.ok () []) (fun l=>(Sx.fail last l 100:Sx.R Unit))=R.void by rw [hR];rfl] at Hfail
    rw[←hn] at hkn
    subst hkn
    have hz:¬ (n:Int) < n:=by omega
    have hz2:(n:Int)≥n:=by omega
    obtain ⟨W1,W2,hW1,hW2,p1,p2,hb,hsz⟩:=pbox w (.slice A n c) (.int .i64 n) (.int .i64 last) (.int .i64 0) (.int .i64 0)
    have HB:=Lh hb;have HP:=Lh p1;have HQ:=Lh p2
    obtain ⟨x0,x1,x2,x3,x4,xz⟩:=cells5 p1
    clear hc hp hn hR hb p1 p2
    go_enter Tryz.func93,Tryz.ntmps93
    go_upto_region 1 with fail
    rw[←hW1,←hW2]
    clear hW1 hW2
    go_wp2_with fail
    refine (Hfail.out _ (HC.out.next HB.out)).mono ?_
    rintro e' w2 ⟨k',x',p',rfl,ha,hb⟩
    have hg:=hb.size
    have HB2:=Lh (HB.out.trans (hb.mono HB.out.size));have HQ2:=Lh (HQ.out.below hb (by omega));have HA:=Lh ha
    obtain ⟨y0,y1,y2,y3,y4,yz⟩:=cells5 HQ2.out
    obtain ⟨f0,f1,f2,f3,f4⟩:=frees5 HQ2.out
    obtain ⟨W9,hW9,t,hb9⟩:=pstore HQ2.out (.slice A n c) (.int .i64 k') (.int .i64 last) (.int .i64 x') (.int .i64 p')
    have HB9:=Lh (hb9 w.heap.size w HB2.out (by omega));have HT:=Lh t;have HW9:=Lh hW9
    clear hb ha x0 x1 x2 x3 x4 xz t hb9 hW9
    go_wp2_with fail
    rw[←HW9.out]
    obtain ⟨t0,t1,t2,t3,t4,tz⟩:=HT.out
    exact bodyPost_ret (v:=.tuple #[.int .i64 0,pv A n c k' last x' p']) (by simp [results,Tryz.results93,go_sem,pv,t0,t1,t2,t3,t4]) rfl ⟨(0:Int),_,_,_,_,rfl,HV.out,rfl,HA.out,HB9.out⟩
  · obtain ⟨b,o,rfl,hb0,q0,q1,q2,q3⟩:=hc.tok ht
    have hj2:j < n:=by omega
    have hj3:¬ (j:Int)≥n:=by omega
    by_cases hk:¬ (t.kind=2∧lo≤t.n∧t.n≤hi)
    · have e0:Sx.number last lo hi (t::T.drop (j+1))=Sx.fail last (t::T.drop (j+1)) 100:=by
        unfold Sx.number;simp only;rw[if_neg hk]
      have HV:Hid (R.Val (0:Int)):=Lh (by rw [hR,Sx.goOk,e0];exact .of_bad _ _ _)
      rw[show Sx.go (.ok () (t::T.drop (j+1))) (fun l=>(Sx.fail last l 100:Sx.R Unit))=R.void by rw [hR,Sx.goOk,Sx.goOk,e0];rfl] at Hfail
      obtain ⟨W1,W2,hW1,hW2,p1,p2,hb,hsz⟩:=pbox w (.slice (some ⟨b,o,none⟩) n c) (.int .i64 j) (.int .i64 last) (.int .i64 0) (.int .i64 0)
      have HB:=Lh hb;have HP:=Lh p1;have HQ:=Lh p2
      obtain ⟨x0,x1,x2,x3,x4,xz⟩:=cells5 p1
      have q0':=(HB.out.cell (p:=⟨b,_,none⟩) hb0).trans q0
      have q1':=(HB.out.cell (p:=⟨b,_,none⟩) hb0).trans q1
      have q2':=(HB.out.cell (p:=⟨b,_,none⟩) hb0).trans q2
      have hb0':b < W2.heap.size:=by omega
      clear q0 q1 q2 q3
      clear hc hp hn hR hb p1 p2 ht
      go_enter Tryz.func93,Tryz.ntmps93
      go_upto_region 1 with fail
      rw[←hW1,←hW2]
      clear hW1 hW2
      clear e0
      by_cases k1:(t.kind != 2)=true
      · have k2:(t.kind != 2)=true:=k1
        go_wp2_with fail
        refine (Hfail.out _ (HC.out.next HB.out)).mono ?_
        rintro e' w2 ⟨k',x',p',rfl,ha,hb⟩
        have hg:=hb.size
        have HB2:=Lh (HB.out.trans (hb.mono HB.out.size));have HQ2:=Lh (HQ.out.below hb (by omega));have HA:=Lh ha
        obtain ⟨y0,y1,y2,y3,y4,yz⟩:=cells5 HQ2.out
        obtain ⟨f0,f1,f2,f3,f4⟩:=frees5 HQ2.out
        obtain ⟨W9,hW9,t,hb9⟩:=pstore HQ2.out (.slice (some ⟨b,o,none⟩) n c) (.int .i64 k') (.int .i64 last) (.int .i64 x') (.int .i64 p')
        have HB9:=Lh (hb9 w.heap.size w HB2.out (by omega));have HT:=Lh t;have HW9:=Lh hW9
        clear hb ha x0 x1 x2 x3 x4 xz t hb9 hW9
        go_wp2_with fail
        rw[←HW9.out]
        obtain ⟨t0,t1,t2,t3,t4,tz⟩:=HT.out
        exact bodyPost_ret (v:=.tuple #[.int .i64 0,pv (some ⟨b,o,none⟩) n c k' last x' p']) (by simp [results,Tryz.results93,go_sem,pv,t0,t1,t2,t3,t4]) rfl ⟨(0:Int),_,_,_,_,rfl,HV.out,rfl,HA.out,HB9.out⟩
      have k3:(t.kind != 2)=false:=by simpa using k1
      by_cases k4:t.n < lo
      · go_wp2_with fail
        refine (Hfail.out _ (HC.out.next HB.out)).mono ?_
        rintro e' w2 ⟨k',x',p',rfl,ha,hb⟩
        have hg:=hb.size
        have HB2:=Lh (HB.out.trans (hb.mono HB.out.size));have HQ2:=Lh (HQ.out.below hb (by omega));have HA:=Lh ha
        obtain ⟨y0,y1,y2,y3,y4,yz⟩:=cells5 HQ2.out
        obtain ⟨f0,f1,f2,f3,f4⟩:=frees5 HQ2.out
        obtain ⟨W9,hW9,t,hb9⟩:=pstore HQ2.out (.slice (some ⟨b,o,none⟩) n c) (.int .i64 k') (.int .i64 last) (.int .i64 x') (.int .i64 p')
        have HB9:=Lh (hb9 w.heap.size w HB2.out (by omega));have HT:=Lh t;have HW9:=Lh hW9
        clear hb ha x0 x1 x2 x3 x4 xz t hb9 hW9
        go_wp2_with fail
        rw[←HW9.out]
        obtain ⟨t0,t1,t2,t3,t4,tz⟩:=HT.out
        exact bodyPost_ret (v:=.tuple #[.int .i64 0,pv (some ⟨b,o,none⟩) n c k' last x' p']) (by simp [results,Tryz.results93,go_sem,pv,t0,t1,t2,t3,t4]) rfl ⟨(0:Int),_,_,_,_,rfl,HV.out,rfl,HA.out,HB9.out⟩
      · have k5:hi < t.n:=by
          have:t.kind=2:=by simpa using k3
          omega
        have k6:t.n > hi:=k5
        go_wp2_with fail
        refine (Hfail.out _ (HC.out.next HB.out)).mono ?_
        rintro e' w2 ⟨k',x',p',rfl,ha,hb⟩
        have hg:=hb.size
        have HB2:=Lh (HB.out.trans (hb.mono HB.out.size));have HQ2:=Lh (HQ.out.below hb (by omega));have HA:=Lh ha
        obtain ⟨y0,y1,y2,y3,y4,yz⟩:=cells5 HQ2.out
        obtain ⟨f0,f1,f2,f3,f4⟩:=frees5 HQ2.out
        obtain ⟨W9,hW9,t,hb9⟩:=pstore HQ2.out (.slice (some ⟨b,o,none⟩) n c) (.int .i64 k') (.int .i64 last) (.int .i64 x') (.int .i64 p')
        have HB9:=Lh (hb9 w.heap.size w HB2.out (by omega));have HT:=Lh t;have HW9:=Lh hW9
        clear hb ha x0 x1 x2 x3 x4 xz t hb9 hW9
        go_wp2_with fail
        rw[←HW9.out]
        obtain ⟨t0,t1,t2,t3,t4,tz⟩:=HT.out
        exact bodyPost_ret (v:=.tuple #[.int .i64 0,pv (some ⟨b,o,none⟩) n c k' last x' p']) (by simp [results,Tryz.results93,go_sem,pv,t0,t1,t2,t3,t4]) rfl ⟨(0:Int),_,_,_,_,rfl,HV.out,rfl,HA.out,HB9.out⟩
    · have hk':t.kind=2∧lo≤t.n∧t.n≤hi:=Classical.not_not.1 hk
      have e0:Sx.number last lo hi (t::T.drop (j+1)) = .ok t.n (T.drop (j+1)):=by unfold Sx.number;simp only;rw[if_pos hk']
      have k3:(t.kind != 2)=false:=by simpa using hk'.1
      have k4:¬ t.n < lo:=by omega
      have k5:¬ t.n > hi:=by omega
      have HV:Hid (R.Val t.n):=Lh (by rw [hR,Sx.goOk,e0];exact .of_ok _ _)
      have HR:Hid (PAt T R.void ((j:Int)+1) 0 0):=Lh (by rw [hR,Sx.goOk,e0];exact PAt.tail hj)
      obtain ⟨W1,W2,hW1,hW2,p1,p2,hb,hsz⟩:=pbox w (.slice (some ⟨b,o,none⟩) n c) (.int .i64 j) (.int .i64 last) (.int .i64 0) (.int .i64 0)
      have HB:=Lh hb;have HP:=Lh p1;have HQ:=Lh p2
      obtain ⟨x0,x1,x2,x3,x4,xz⟩:=cells5 p1
      obtain ⟨e0',e1,e2,e3,e4⟩:=frees5 p1
      obtain ⟨f0,f1,f2,f3,f4⟩:=frees5 p2
      obtain ⟨y0,y1,y2,y3,y4,yz⟩:=cells5 p2
      clear Hfail e0
      clear hk hk'
      have q0':=(HB.out.cell (p:=⟨b,_,none⟩) hb0).trans q0
      have q1':=(HB.out.cell (p:=⟨b,_,none⟩) hb0).trans q1
      have q2':=(HB.out.cell (p:=⟨b,_,none⟩) hb0).trans q2
      have hb0':b < W2.heap.size:=by omega
      clear q0 q1 q2 q3
      clear hc hp hn hR hb p1 p2 ht
      go_enter Tryz.func93,Tryz.ntmps93
      go_upto_region 1 with fail
      rw[←hW1,←hW2]
      clear hW1 hW2
      go_wp2_with fail
      go_region
      obtain ⟨W9,hW9,hT,hb9⟩:=pstore (HQ.out.far (p:=⟨w.heap.size,1,none⟩) (by simp) (.int .i64 ((j:Int)+1))) (.slice (some ⟨b,o,none⟩) n c) (.int .i64 ((j:Int)+1)) (.int .i64 last) (.int .i64 0) (.int .i64 0)
      rw[←hW9]
      have HB9:=Lh (hb9 w.heap.size w (HB.out.setCell (Nat.le_refl _) _) (by omega)).drew
      obtain ⟨t0,t1,t2,t3,t4,tz⟩:=hT
      go_wp2_with fail
      exact bodyPost_ret (v:=.tuple #[.int .i64 t.n,pv (some ⟨b,o,none⟩) n c ((j:Int)+1) last 0 0]) (by simp [results,Tryz.results93,go_sem,pv,t0,t1,t2,t3,t4]) rfl ⟨_,[.int .i64 t.n],_,_,_,rfl,HV.out,rfl,HR.out,HB9.out⟩
end Go.Proofs.YtjonaidancomgaaGreatDoor

namespace Go.Proofs.YtjonaidancomgaaGreatDoor
open Go.RowKit

theorem pstoreB {w:World} {b:Nat} {z0 z1 z2 z3 z4:Value} (h:Blk w b 64 #[z0,z1,z2,z3,z4]) (a0 a1 a2 a3 a4:Value):∃ W:World,W=((((w.setCell ⟨b,0,none⟩ a0).setCell ⟨b,1,none⟩ a1).setCell ⟨b,2,none⟩ a2).setCell ⟨b,3,none⟩ a3).setCell ⟨b,4,none⟩ a4∧
  Blk W b 64 #[a0,a1,a2,a3,a4]∧((∀ k,k≠b→W.heap[k]?=w.heap[k]?)∧W.heap.size=w.heap.size)∧∀ (B:Nat) (w0:World),Below B w0 w→B≤b→Below B w0 W:=by
 refine ⟨_,rfl,?_,⟨fun k hk=>?_,by simp [World.setCell]⟩,fun B w0 hb hB=>((((hb.setCell (p:=⟨b,0,none⟩) hB a0).setCell (p:=⟨b,1,none⟩) hB a1).setCell (p:=⟨b,2,none⟩) hB a2).setCell (p:=⟨b,3,none⟩) hB a3).setCell (p:=⟨b,4,none⟩) hB a4⟩
 ·have:=((((h.set 0 a0).set 1 a1).set 2 a2).set 3 a3).set 4 a4
  simpa using this
 ·rw[Below.heap_setCell _ ⟨b,4,none⟩ _ k hk,Below.heap_setCell _ ⟨b,3,none⟩ _ k hk,Below.heap_setCell _ ⟨b,2,none⟩ _ k hk,Below.heap_setCell _ ⟨b,1,none⟩ _ k hk,Below.heap_setCell _ ⟨b,0,none⟩ _ k hk]
theorem rSize5 (n:Nat) (h2:n≤1073741824) (w:World):Calls Tryz.prog 201 #[.int .i64 n] w fun e w'=>e = .returned (.int .u64 n)∧w'=w:=by
 go_enter Tryz.func201,Tryz.ntmps201
 go_wp2
 go_ret
 exact ⟨ret_int (by omega),rfl⟩
set_option maxHeartbeats 1000000 in
theorem rCommon5 (a b:Nat) (h2:a≤1073741824) (h4:b≤1073741824) (w:World) :
  Calls Tryz.prog 200 #[.int .u64 a,.int .u64 b] w fun e w'=>e = .returned (.int .u64 (Nat.gcd a b:Nat))∧Below w.heap.size w w':=by
 obtain ⟨g,hg⟩:∃ g,g=Nat.gcd a b:=⟨_,rfl⟩
 rw[←hg]
 have Hg:=Lh hg
 clear hg
 go_enter Tryz.func200,Tryz.ntmps200
 go_wp2_with fail
 go_loopw [0,1] (fun v0 v1 wr=>∃ x y:Nat,v0 = .int .u64 x∧v1 = .int .u64 y∧x≤1073741824∧y≤1073741824∧Hid (g=Nat.gcd x y)∧Hid (Below w.heap.size w wr)) (fun _ v1 _=>(intOf v1).toNat)
 case atStart=>exact ⟨a,b,rfl,rfl,h2,h4,Hg,Lh (Below.refl _ _)⟩
 case round=>
  obtain ⟨x,y,rfl,rfl,hx,hy,HG,HB⟩:=hrel
  by_cases h0:y=0
  ·subst h0
   go_wp2_with fail
   go_ret
   exact ⟨ret_int (by rw [HG.out,Nat.gcd_zero_right]),HB.out⟩
  ·have hm:x % y < y:=Nat.mod_lt _ (by omega)
   have hy0:((y:Int) == 0)=false:=by simp;omega
   have hy1:1≤y:=by omega
   have HG2:Hid (g=Nat.gcd y (x % y)):=Lh (by rw [HG.out,Nat.gcd_comm x y,Nat.gcd_rec y x,Nat.gcd_comm])
   clear h0
   go_wp2_with fail
   go_region
   go_roundw
   case rel=>
    refine ⟨_,_,_,_,_,_,_,_,⟨y,x % y,?_,?_,hy,by omega,HG2,Lh HB.out.drew⟩,rfl⟩
    ·rfl
    ·rfl
   case measure=>
    simp[intOf]
    omega
def New5Post (n d:Nat) (w:World) (e:Ending) (w':World):Prop:=e = .returned (.tuple #[.agg #[.int .i64 (Sx.lowest n d).num,.int .i64 (Sx.lowest n d).den],.int .i64 0])∧Below w.heap.size w w'
set_option maxRecDepth 20000 in
set_option maxHeartbeats 1000000 in
theorem rNew5 (n d:Nat) (h1:n≤12000) (h2:1≤d) (h3:d≤1000) (w:World):Calls Tryz.prog 171 #[.int .i64 n,.int .i64 d] w (New5Post n d w):=by
 have hg1:1≤Nat.gcd n d:=Nat.gcd_pos_of_pos_right n (by omega)
 have hq1:n / Nat.gcd n d≤n:=Nat.div_le_self _ _
 have hq2:d / Nat.gcd n d≤d:=Nat.div_le_self _ _
 have hlow:Sx.lowest n d=⟨((n / Nat.gcd n d:Nat):Int),((d / Nat.gcd n d:Nat):Int)⟩:=by
  unfold Sx.lowest
  rw[show Int.gcd (n:Int) (d:Int)=Nat.gcd n d from rfl]
  simp
 have Hl:=Lh hlow
 have Hc:=Lh (fun W=>rCommon5 n d (by omega) (by omega) W)
 have Hn:=Lh (fun W=>rSize5 n (by omega) W)
 have Hd:=Lh (fun W=>rSize5 d (by omega) W)
 obtain ⟨g,hg⟩:∃ g,g=Nat.gcd n d:=⟨_,rfl⟩
 rw[←hg] at hg1 hq1 hq2 Hl Hc
 have hgd:g≤1000:=by rw [hg];exact Nat.le_trans (Nat.gcd_le_right n (by omega)) h3
 have hd0:((d:Int) == 0)=false:=by simp;omega
 have hg0:((g:Int) == 0)=false:=by simp;omega
 obtain ⟨q,hq⟩:∃ q,q=n / g:=⟨_,rfl⟩
 obtain ⟨r,hr⟩:∃ r,r=d / g:=⟨_,rfl⟩
 have e1:(n:Int) / (g:Int)=(q:Int):=by rw [hq];rfl
 have e2:(d:Int) / (g:Int)=(r:Int):=by rw [hr];rfl
 rw[←hq] at hq1 Hl
 rw[←hr] at hq2 Hl
 clear hlow hg hq hr
 go_enter Tryz.func171,Tryz.ntmps171
 go_wp2_with fail
 refine (Hn.out _).mono ?_
 rintro e w1 ⟨rfl,rfl⟩
 go_wp2_with fail
 refine (Hd.out _).mono ?_
 rintro e w1 ⟨rfl,rfl⟩
 go_wp2_with fail
 refine (Hc.out _).mono ?_
 rintro e w1 ⟨rfl,hb⟩
 have hx:=(Blk.new w 75 #[.int .i64 0,.int .i64 0]).below hb (by simp)
 have hbel:=((Below.refl w.heap.size w).alloc (Nat.le_refl _) (.cells #[.int .i64 0,.int .i64 0] 75)).trans (hb.mono (by simp))
 have x0:=hx.cell 0;have x1:=hx.cell 1;have f0:=hx.free 0;have f1:=hx.free 1
 simp at x0 x1
 have Hbel:=Lh hbel;have Hx:=Lh hx
 clear hb hx hbel
 go_wp2_with fail
 refine (Hn.out _).mono ?_
 rintro e w1 ⟨rfl,rfl⟩
 go_wp2_with fail
 refine (Hd.out _).mono ?_
 rintro e w1 ⟨rfl,rfl⟩
 go_wp2_with fail
 obtain ⟨W,hW⟩:∃ W,W=(w1.setCell ⟨w.heap.size,0,none⟩ (.int .i64 q)).setCell ⟨w.heap.size,1,none⟩ (.int .i64 r):=⟨_,rfl⟩
 have hB:Blk W w.heap.size 75 #[.int .i64 q,.int .i64 r]:=by
  rw[hW]
  have:=(Hx.out.set 0 (.int .i64 q)).set 1 (.int .i64 r)
  simpa using this
 have d0:=hB.cell 0;have d1:=hB.cell 1
 simp at d0 d1
 have hbW:Below w.heap.size w W:=by
  rw[hW]
  exact (Hbel.out.setCell (p:=⟨w.heap.size,0,none⟩) (Nat.le_refl _) _).setCell (p:=⟨w.heap.size,1,none⟩) (Nat.le_refl _) _
 rw[←hW]
 clear hW
 exact bodyPost_ret (v:=.tuple #[.agg #[.int .i64 q,.int .i64 r],.int .i64 0]) (by simp [results,Tryz.results171,go_sem,d0,d1]) rfl ⟨by rw [Hl.out],hbW⟩
def vRefs (_:World) (a:List UInt8 × Int) (vs:List Value):Prop:=vs = [strV a.1,intV a.2]∧a.1.length≤140737488351232
theorem Sx.go_ref_yes {s:Sx.R Unit} {last:Int} (h:s.hits 3 [35]=true):Sx.go s (Sx.ref last)=(Sx.go (Sx.go s (Sx.sign last 35)) (Sx.number last 0 4095)).bind fun n l=>.ok (([],n):List UInt8 × Int) l:=by
 obtain ⟨l,rfl,h1,h2⟩:=Sx.hits_need (last:=last) s h
 have h3:Sx.go (.ok () l) (Sx.sign last 35) = .ok () l.tail:=h2
 rw[h3,Sx.goOk,Sx.goOk]
 unfold Sx.ref
 rw[if_pos h1]
theorem Sx.go_ref_no {s:Sx.R Unit} {last:Int} (h:s.hits 3 [35]=false):Sx.go s (Sx.ref last)=(Sx.go s (Sx.name last)).bind fun x l=>.ok ((x,0):List UInt8 × Int) l:=by
 rcases Sx.hits_not h with ⟨p,e,rfl⟩ | ⟨l,rfl,h1⟩
 ·rfl
 ·rw[Sx.goOk,Sx.goOk];unfold Sx.ref;rw[if_neg (by rw [h1];simp)]
set_option maxRecDepth 20000 in
set_option maxHeartbeats 2000000 in
theorem pRef (T:List Lx.Tok) (A:Option Addr) (c:Nat) (last:Int) (s:Sx.R Unit) (k e p:Int) (w:World) (hc:PCtx T A w) (hp:PAt T s k e p) :
  Calls Tryz.prog 97 #[pv A T.length c k last e p] w (PRead T A c last vRefs (Sx.go s (Sx.ref last)) w):=by
 have HC:=Lh hc;have HPT:=Lh hp
 have Hs:=Lh (fun w' h=>pS T A c last ⟨#[35]⟩ s k e p w' h hp)
 have hlen:=hc.toks.len
 obtain ⟨R,hR⟩:∃ R,R=Sx.go s (Sx.ref last):=⟨_,rfl⟩
 obtain ⟨n,hn⟩:∃ n,n=T.length:=⟨_,rfl⟩
 rw[←hR]
 unfold PRead
 have Hn:=Lh hn
 rw[←hn] at Hs hlen ⊢
 unfold pv at Hs ⊢
 obtain ⟨W1,W2,hW1,hW2,p1,p2,hb,hsz⟩:=pbox w (.slice A n c) (.int .i64 k) (.int .i64 last) (.int .i64 e) (.int .i64 p)
 have HB:=Lh hb;have HX_p:=Lh p1;have HX_q:=Lh p2
 clear hc hp hn hb p1 p2
 cases hh:s.hits 3 [35] with
 | true=>
  rw[Sx.go_ref_yes hh] at hR
  rw[show (⟨#[35]⟩:ByteArray).data.toList = [35] from rfl,hh] at Hs
  obtain ⟨c_p0,c_p1,c_p2,c_p3,c_p4,z_p⟩:=cells5 HX_p.out
  obtain ⟨c_q0,c_q1,c_q2,c_q3,c_q4,z_q⟩:=cells5 HX_q.out
  clear hh
  go_enter Tryz.func97,Tryz.ntmps97
  go_upto_region 1 with fail
  rw[←hW1,←hW2]
  clear hW1 hW2
  go_wp2_with fail
  refine (Hs.out _ (HC.out.next HB.out)).mono ?_
  rintro e' w1 ⟨rfl,hb⟩
  clear c_p0 c_p1 c_p2 c_p3 c_p4 z_p c_q0 c_q1 c_q2 c_q3 c_q4 z_q
  have hgz:=hb.size
  replace HB:=bmb HB hb
  replace HX_p:=bmv HX_p hb
  replace HX_q:=bmv HX_q hb
  clear hb
  obtain ⟨c_p0,c_p1,c_p2,c_p3,c_p4,z_p⟩:=cells5 HX_p.out
  obtain ⟨f_p0,f_p1,f_p2,f_p3,f_p4⟩:=frees5 HX_p.out
  obtain ⟨c_q0,c_q1,c_q2,c_q3,c_q4,z_q⟩:=cells5 HX_q.out
  have Hsg:=Lh (pSg T A c last 35 s k e p w1 (HC.out.next HB.out) HPT.out)
  unfold PPost pv at Hsg
  rw[←Hn.out] at Hsg
  go_wp2_with fail
  refine Hsg.out.mono ?_
  rintro e' w2 ⟨k2,x2,p2,rfl,ha,hb⟩
  have HPT2:=Lh ha
  clear ha Hsg
  clear c_p0 c_p1 c_p2 c_p3 c_p4 z_p f_p0 f_p1 f_p2 f_p3 f_p4 c_q0 c_q1 c_q2 c_q3 c_q4 z_q
  have hgz:=hb.size
  replace HB:=bmb HB hb
  replace HX_p:=bmv HX_p hb
  replace HX_q:=bmv HX_q hb
  clear hb
  obtain ⟨c_p0,c_p1,c_p2,c_p3,c_p4,z_p⟩:=cells5 HX_p.out
  obtain ⟨f_p0,f_p1,f_p2,f_p3,f_p4⟩:=frees5 HX_p.out
  obtain ⟨W3,hW3,hxn,hfar,hbn⟩:=pstoreB HX_p.out (.slice A n c) (.int .i64 k2) (.int .i64 last) (.int .i64 x2) (.int .i64 p2)
  replace HB:=Lh (hbn w.heap.size w HB.out (by omega))
  replace HX_q:=bfr hfar.1 HX_q (by omega)
  replace HX_p:=Lh hxn
  have hsz_W3:=hfar.2
  clear hxn hfar hbn
  go_upto_region 3 with fail
  rw[←hW3]
  clear hW3
  clear c_p0 c_p1 c_p2 c_p3 c_p4 z_p f_p0 f_p1 f_p2 f_p3 f_p4
  have HNum:=Lh (pNumber T A c last 0 4095 _ k2 x2 p2 W3 (HC.out.next HB.out) HPT2.out)
  unfold PRead pv at HNum
  rw[←Hn.out] at HNum
  obtain ⟨c_p0,c_p1,c_p2,c_p3,c_p4,z_p⟩:=cells5 HX_p.out
  go_wp2_with fail
  refine HNum.out.mono ?_
  rintro e' w4 ⟨m,vs,k4,x4,p4,rfl,hv,hvs,ha,hb⟩
  unfold vInts intV at hvs
  subst hvs
  simp only[List.cons_append,List.nil_append]
  have HV:Hid (R.Val ([],m)):=Lh (by rw [hR];exact hv.map _)
  have HA:Hid (PAt T R.void k4 x4 p4):=Lh (by rw [hR,Sx.void_map];exact ha)
  clear hv ha HNum
  clear c_p0 c_p1 c_p2 c_p3 c_p4 z_p
  have hgz:=hb.size
  replace HB:=bmb HB hb
  replace HX_p:=bmv HX_p hb
  replace HX_q:=bmv HX_q hb
  clear hb
  obtain ⟨W5,hW5⟩:∃ V,V=w4.alloc (.cells #[.slice A n c,.int .i64 k4,.int .i64 last,.int .i64 x4,.int .i64 p4] 64):=⟨_,rfl⟩
  obtain ⟨HX_r,hb⟩:=bnw hW5
  have hgz:=hb.size
  replace HB:=bmb HB hb
  replace HX_p:=bmv HX_p hb
  replace HX_q:=bmv HX_q hb
  clear hb
  go_upto_region 4 with fail
  rw[←hW5]
  obtain ⟨c_r0,c_r1,c_r2,c_r3,c_r4,z_r⟩:=cells5 HX_r.out
  obtain ⟨c_q0,c_q1,c_q2,c_q3,c_q4,z_q⟩:=cells5 HX_q.out
  obtain ⟨f_q0,f_q1,f_q2,f_q3,f_q4⟩:=frees5 HX_q.out
  obtain ⟨W9,hW9,hxn,hfar,hbn⟩:=pstoreB HX_q.out (.slice A n c) (.int .i64 k4) (.int .i64 last) (.int .i64 x4) (.int .i64 p4)
  replace HB:=Lh (hbn w.heap.size w HB.out (by omega))
  replace HX_p:=bfr hfar.1 HX_p (by omega)
  replace HX_r:=bfr hfar.1 HX_r (by omega)
  replace HX_q:=Lh hxn
  have hsz_W9:=hfar.2
  clear hxn hfar hbn
  clear hW5
  go_region
  rw[←hW9]
  clear hW9
  clear c_r0 c_r1 c_r2 c_r3 c_r4 z_r c_q0 c_q1 c_q2 c_q3 c_q4 z_q f_q0 f_q1 f_q2 f_q3 f_q4
  obtain ⟨c_q0,c_q1,c_q2,c_q3,c_q4,z_q⟩:=cells5 HX_q.out
  go_wp2_with fail
  exact bodyPost_ret (v:=.tuple #[.string ⟨#[]⟩,.int .i64 m,pv A n c k4 last x4 p4]) (by simp [results,Tryz.results97,go_sem,pv,c_q0,c_q1,c_q2,c_q3,c_q4]) rfl ⟨_,[.string ⟨#[]⟩,.int .i64 m],_,_,_,rfl,HV.out,⟨rfl,by simp⟩,HA.out,HB.out.drew⟩
 | false=>
  rw[Sx.go_ref_no hh] at hR
  rw[show (⟨#[35]⟩:ByteArray).data.toList = [35] from rfl,hh] at Hs
  obtain ⟨c_p0,c_p1,c_p2,c_p3,c_p4,z_p⟩:=cells5 HX_p.out
  obtain ⟨c_q0,c_q1,c_q2,c_q3,c_q4,z_q⟩:=cells5 HX_q.out
  clear hh
  go_enter Tryz.func97,Tryz.ntmps97
  go_upto_region 1 with fail
  rw[←hW1,←hW2]
  clear hW1 hW2
  go_wp2_with fail
  refine (Hs.out _ (HC.out.next HB.out)).mono ?_
  rintro e' w1 ⟨rfl,hb⟩
  clear c_p0 c_p1 c_p2 c_p3 c_p4 z_p c_q0 c_q1 c_q2 c_q3 c_q4 z_q
  have hgz:=hb.size
  replace HB:=bmb HB hb
  replace HX_p:=bmv HX_p hb
  replace HX_q:=bmv HX_q hb
  clear hb
  obtain ⟨c_p0,c_p1,c_p2,c_p3,c_p4,z_p⟩:=cells5 HX_p.out
  have HNm:=Lh (pName T A c last s k e p w1 (HC.out.next HB.out) HPT.out)
  unfold PRead pv at HNm
  rw[←Hn.out] at HNm
  go_wp2_with fail
  refine HNm.out.mono ?_
  rintro e' w4 ⟨m,vs,k4,x4,p4,rfl,hv,hvs,ha,hb⟩
  obtain ⟨hvs,hml⟩:=hvs
  unfold strV at hvs
  subst hvs
  have HL:=Lh hml
  clear hml
  simp only[List.cons_append,List.nil_append]
  have HV:Hid (R.Val (m,0)):=Lh (by rw [hR];exact hv.map _)
  have HA:Hid (PAt T R.void k4 x4 p4):=Lh (by rw [hR,Sx.void_map];exact ha)
  clear hv ha HNm
  clear c_p0 c_p1 c_p2 c_p3 c_p4 z_p
  have hgz:=hb.size
  replace HB:=bmb HB hb
  replace HX_p:=bmv HX_p hb
  replace HX_q:=bmv HX_q hb
  clear hb
  obtain ⟨W5,hW5⟩:∃ V,V=w4.alloc (.cells #[.slice A n c,.int .i64 k4,.int .i64 last,.int .i64 x4,.int .i64 p4] 64):=⟨_,rfl⟩
  obtain ⟨HX_r,hb⟩:=bnw hW5
  have hgz:=hb.size
  replace HB:=bmb HB hb
  replace HX_p:=bmv HX_p hb
  replace HX_q:=bmv HX_q hb
  clear hb
  go_upto_region 6 with fail
  rw[←hW5]
  obtain ⟨c_r0,c_r1,c_r2,c_r3,c_r4,z_r⟩:=cells5 HX_r.out
  obtain ⟨c_q0,c_q1,c_q2,c_q3,c_q4,z_q⟩:=cells5 HX_q.out
  obtain ⟨f_q0,f_q1,f_q2,f_q3,f_q4⟩:=frees5 HX_q.out
  obtain ⟨W9,hW9,hxn,hfar,hbn⟩:=pstoreB HX_q.out (.slice A n c) (.int .i64 k4) (.int .i64 last) (.int .i64 x4) (.int .i64 p4)
  replace HB:=Lh (hbn w.heap.size w HB.out (by omega))
  replace HX_p:=bfr hfar.1 HX_p (by omega)
  replace HX_r:=bfr hfar.1 HX_r (by omega)
  replace HX_q:=Lh hxn
  have hsz_W9:=hfar.2
  clear hxn hfar hbn
  clear hW5
  go_region
  rw[←hW9]
  clear hW9
  clear c_r0 c_r1 c_r2 c_r3 c_r4 z_r c_q0 c_q1 c_q2 c_q3 c_q4 z_q f_q0 f_q1 f_q2 f_q3 f_q4
  obtain ⟨c_q0,c_q1,c_q2,c_q3,c_q4,z_q⟩:=cells5 HX_q.out
  go_wp2_with fail
  exact bodyPost_ret (v:=.tuple #[.string (Lx.bs m),.int .i64 0,pv A n c k4 last x4 p4]) (by simp [results,Tryz.results97,go_sem,pv,c_q0,c_q1,c_q2,c_q3,c_q4]) rfl ⟨_,[.string (Lx.bs m),.int .i64 0],_,_,_,rfl,HV.out,⟨rfl,HL.out⟩,HA.out,HB.out.drew⟩
end Go.Proofs.YtjonaidancomgaaGreatDoor
