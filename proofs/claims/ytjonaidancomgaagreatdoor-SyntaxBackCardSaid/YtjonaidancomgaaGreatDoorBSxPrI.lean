/- Parts of the proof, joined into one text: SxPrI, SxCel, SxPrR. -/
import Derived.Test.YtjonaidancomgaaGreatDoorBSxOk
import Derived.Deep.LoopGhost
import Derived.Test.YtjonaidancomgaaGreatDoorBLxE

namespace Go.Proofs.YtjonaidancomgaaGreatDoor
open Go.RowKit

structure PI (g : Nat) (l : List Lx.Tok) (w0 w : World) : Prop where
 st:PrSt g l w
 bel:Below g w0 w
 kp:KP w0 w
def PIPost (g:Nat) (l:List Lx.Tok) (w0:World) (e:Ending) (w':World):Prop:=e = .returned (.tuple #[])∧PI g l w0 w'
theorem PI.start {g:Nat} {l:List Lx.Tok} {w:World} (h:PrSt g l w):PI g l w w:=⟨h,Below.refl _ _,KP.refl _⟩
theorem PI.next {g:Nat} {l:List Lx.Tok} {w0 w w':World} (h:PI g l w0 w) (hb:Below w.heap.size w w'):PI g l w0 w':=
 ⟨h.st.next hb,h.bel.trans (hb.mono (Nat.le_of_lt h.st.lt)),h.kp.trans (KP.below hb)⟩
theorem PI.post {g:Nat} {l ts:List Lx.Tok} {w0 w w':World} {e:Ending} (h:PI g l w0 w) (ht:TPost g l ts w e w'):PIPost g (l++ts) w0 e w':=
 ⟨ht.1,ht.2.1,h.bel.trans ht.2.2.1,h.kp.trans ht.2.2.2⟩
theorem PI.blk {g:Nat} {l:List Lx.Tok} {w0 w:World} (h:PI g l w0 w) {b:Nat} {t:TypeId} {cs:Array Value} (hb:Blk w0 b t cs) (h1:t≠55) (h2:t≠110):Blk w b t cs:=h.kp.blk hb h1 h2
theorem RuleSays.later {g:Nat} {w w':World} {r:Sx.Rule} {cs:List Value} (h:RuleSays g w r cs) (hb:Below g w w'):RuleSays g w' r cs:=
 ⟨h.1,fun l W hW hB hl=>h.2 l W hW (hb.trans hB) hl⟩
theorem PI.put {g:Nat} {l:List Lx.Tok} {w0 w:World} (h:PI g l w0 w) (its:List PrIt) {cs:Array Value} {n b:Nat} {ts:List Lx.Tok} (hb0:b=w.heap.size) (hcs:cs=(its.map PrIt.val).toArray) (hn:n=its.length) (hts:its.flatMap PrIt.toks=ts) (hn1:n≤100) (hlen:l.length+ts.length≤60000)
  (hrul:∀ r c,PrIt.rule r c∈its→RuleSays g w0 r c) :
  Calls Tryz.prog 50 #[.pointer (some ⟨g,0,none⟩),.slice (some ⟨b,0,none⟩) n n] (w.alloc (.cells cs 20)) (PIPost g (l++ts) w0):=by
 subst hb0;subst hcs;subst hn;subst hts
 have hb:Below w.heap.size w (w.alloc (.cells (its.map PrIt.val).toArray 20)):=(Below.refl _ _).alloc (Nat.le_refl _) _
 have h1:=h.next hb
 exact (lPut g its l w.heap.size _ h1.st (Blk.new _ _ _) hn1 hlen (fun r c hr=>(hrul r c hr).later h1.bel)).mono fun e w' he=>h1.post he

set_option maxRecDepth 20000 in
set_option maxHeartbeats 2000000 in
theorem lRef (g:Nat) (nm:List UInt8) (n:Int) (l:List Lx.Tok) (w:World) (h:PrSt g l w) (hlen:l.length+(Sx.refT nm n).length≤60000) :
  Calls Tryz.prog 51 #[.pointer (some ⟨g,0,none⟩),.string (Lx.bs nm),.int .i64 n] w (TPost g l (Sx.refT nm n) w):=by
 have H:=Lh (PI.start h)
 have hbs:((Lx.bs nm).toList == (⟨#[]⟩:ByteArray).toList)=nm.isEmpty:=by rw [ByteArray.toList_eq,ByteArray.toList_eq,Lx.bs_list];cases nm <;> rfl
 have hbs2:(Lx.bs nm).toList.isEmpty=nm.isEmpty:=by rw [ByteArray.toList_eq,Lx.bs_list]
 clear h
 cases q:nm.isEmpty with
 | true=>
  rw[q] at hbs hbs2
  have ht:Sx.refT nm n = [Sx.sgT 35,Sx.numT n]:=by unfold Sx.refT;rw[q];rfl
  rw[ht] at hlen
  simp at hlen
  have Ht:=Lh ht
  clear ht
  go_enter Tryz.func51,Tryz.ntmps51
  go_wp2_with fail
  refine (H.out.put [.sign [35],.num n] (ts:=[Sx.sgT 35,Sx.numT n]) rfl rfl rfl rfl (by simp) (by simp;omega) (by simp)).mono ?_
  rintro e w1 ⟨rfl,h1⟩
  have H1:=Lh h1
  clear h1
  go_wp2_with fail
  go_end0
  exact ⟨rfl,by rw [Ht.out];exact H1.out.st,H1.out.bel,H1.out.kp⟩
 | false=>
  rw[q] at hbs hbs2
  have ht:Sx.refT nm n = [Sx.nameT nm]:=by unfold Sx.refT;rw[q];rfl
  rw[ht] at hlen
  simp at hlen
  have Ht:=Lh ht
  clear ht
  go_enter Tryz.func51,Tryz.ntmps51
  go_wp2_with fail
  refine (H.out.put [.name nm] (ts:=[Sx.nameT nm]) rfl rfl rfl rfl (by simp) (by simp;omega) (by simp)).mono ?_
  rintro e w1 ⟨rfl,h1⟩
  have H1:=Lh h1
  clear h1
  go_wp2_with fail
  go_end0
  exact ⟨rfl,by rw [Ht.out];exact H1.out.st,H1.out.bel,H1.out.kp⟩
theorem PI.ref {g:Nat} {l:List Lx.Tok} {w0 w:World} (h:PI g l w0 w) (nm:List UInt8) (n:Int) (hlen:l.length+(Sx.refT nm n).length≤60000) :
  Calls Tryz.prog 51 #[.pointer (some ⟨g,0,none⟩),.string (Lx.bs nm),.int .i64 n] w (PIPost g (l++Sx.refT nm n) w0):=
 (lRef g nm n l w h.st hlen).mono fun _e _w' he=>h.post he
theorem PI.rule {g:Nat} {l:List Lx.Tok} {w0 w:World} (h:PI g l w0 w) {r:Sx.Rule} {cs:List Value} (hr:RuleSays g w0 r cs) (hlen:l.length+(Sx.ruleT r).length≤60000) :
  Calls Tryz.prog 58 #[.pointer (some ⟨g,0,none⟩),.agg cs.toArray] w (PIPost g (l++Sx.ruleT r) w0):=
 (hr.2 l w h.st h.bel hlen).mono fun _e _w' he=>h.post he
end Go.Proofs.YtjonaidancomgaaGreatDoor

namespace Go.Proofs.YtjonaidancomgaaGreatDoor
open Go.RowKit

theorem cells2 {w:World} {b:Nat} {t:TypeId} {v0 v1:Value} (h:Blk w b t #[v0,v1]):w.cell? ⟨b,0,none⟩=some v0∧w.cell? ⟨b,1,none⟩=some v1∧b < w.heap.size:=
 ⟨(h.cell 0).trans rfl,(h.cell 1).trans rfl,h.lt⟩
theorem cells4 {w:World} {b:Nat} {t:TypeId} {v0 v1 v2 v3:Value} (h:Blk w b t #[v0,v1,v2,v3]):w.cell? ⟨b,0,none⟩=some v0∧w.cell? ⟨b,1,none⟩=some v1∧w.cell? ⟨b,2,none⟩=some v2∧w.cell? ⟨b,3,none⟩=some v3∧b < w.heap.size:=
 ⟨(h.cell 0).trans rfl,(h.cell 1).trans rfl,(h.cell 2).trans rfl,(h.cell 3).trans rfl,h.lt⟩
theorem cells6 {w:World} {b:Nat} {t:TypeId} {v0 v1 v2 v3 v4 v5:Value} (h:Blk w b t #[v0,v1,v2,v3,v4,v5]):w.cell? ⟨b,0,none⟩=some v0∧w.cell? ⟨b,1,none⟩=some v1∧w.cell? ⟨b,2,none⟩=some v2∧w.cell? ⟨b,3,none⟩=some v3∧w.cell? ⟨b,4,none⟩=some v4∧w.cell? ⟨b,5,none⟩=some v5∧b < w.heap.size:=
 ⟨(h.cell 0).trans rfl,(h.cell 1).trans rfl,(h.cell 2).trans rfl,(h.cell 3).trans rfl,(h.cell 4).trans rfl,(h.cell 5).trans rfl,h.lt⟩
theorem cells7 {w:World} {b:Nat} {t:TypeId} {v0 v1 v2 v3 v4 v5 v6:Value} (h:Blk w b t #[v0,v1,v2,v3,v4,v5,v6]):w.cell? ⟨b,0,none⟩=some v0∧w.cell? ⟨b,1,none⟩=some v1∧w.cell? ⟨b,2,none⟩=some v2∧w.cell? ⟨b,3,none⟩=some v3∧w.cell? ⟨b,4,none⟩=some v4∧w.cell? ⟨b,5,none⟩=some v5∧w.cell? ⟨b,6,none⟩=some v6∧b < w.heap.size:=
 ⟨(h.cell 0).trans rfl,(h.cell 1).trans rfl,(h.cell 2).trans rfl,(h.cell 3).trans rfl,(h.cell 4).trans rfl,(h.cell 5).trans rfl,(h.cell 6).trans rfl,h.lt⟩
theorem cells16 {w:World} {b:Nat} {t:TypeId} {v0 v1 v2 v3 v4 v5 v6 v7 v8 v9 v10 v11 v12 v13 v14 v15:Value} (h:Blk w b t #[v0,v1,v2,v3,v4,v5,v6,v7,v8,v9,v10,v11,v12,v13,v14,v15]):w.cell? ⟨b,0,none⟩=some v0∧w.cell? ⟨b,1,none⟩=some v1∧w.cell? ⟨b,2,none⟩=some v2∧w.cell? ⟨b,3,none⟩=some v3∧w.cell? ⟨b,4,none⟩=some v4∧w.cell? ⟨b,5,none⟩=some v5∧w.cell? ⟨b,6,none⟩=some v6∧w.cell? ⟨b,7,none⟩=some v7∧w.cell? ⟨b,8,none⟩=some v8∧w.cell? ⟨b,9,none⟩=some v9∧w.cell? ⟨b,10,none⟩=some v10∧w.cell? ⟨b,11,none⟩=some v11∧w.cell? ⟨b,12,none⟩=some v12∧w.cell? ⟨b,13,none⟩=some v13∧w.cell? ⟨b,14,none⟩=some v14∧w.cell? ⟨b,15,none⟩=some v15∧b < w.heap.size:=
 ⟨(h.cell 0).trans rfl,(h.cell 1).trans rfl,(h.cell 2).trans rfl,(h.cell 3).trans rfl,(h.cell 4).trans rfl,(h.cell 5).trans rfl,(h.cell 6).trans rfl,(h.cell 7).trans rfl,(h.cell 8).trans rfl,(h.cell 9).trans rfl,(h.cell 10).trans rfl,(h.cell 11).trans rfl,(h.cell 12).trans rfl,(h.cell 13).trans rfl,(h.cell 14).trans rfl,(h.cell 15).trans rfl,h.lt⟩
theorem frees6 {w:World} {b:Nat} {t:TypeId} {cs:Array Value} (h:Blk w b t cs):w.frozen? ⟨b,0,none⟩=false∧w.frozen? ⟨b,1,none⟩=false∧w.frozen? ⟨b,2,none⟩=false∧w.frozen? ⟨b,3,none⟩=false∧w.frozen? ⟨b,4,none⟩=false∧w.frozen? ⟨b,5,none⟩=false:=⟨h.free 0,h.free 1,h.free 2,h.free 3,h.free 4,h.free 5⟩
end Go.Proofs.YtjonaidancomgaaGreatDoor

namespace Go.Proofs.YtjonaidancomgaaGreatDoor
open Go.RowKit

theorem Sx.kidsT_snoc (k:Sx.Rule):∀ ks:List Sx.Rule,Sx.kidsT (ks++[k])=Sx.kidsT ks++(Sx.ruleT k++[Sx.sgT 59])
 | []=>by simp [Sx.kidsT]
 | x::ks=>by rw [List.cons_append,Sx.kidsT,Sx.kidsT,Sx.kidsT_snoc k ks];simp
theorem Sx.kidsT_le {ks:List Sx.Rule} : ∀ {i:Nat} {k:Sx.Rule},ks[i]?=some k→(Sx.kidsT (ks.take i)).length+(Sx.ruleT k).length+1≤(Sx.kidsT ks).length:=by
 induction ks with
 | nil=>intro i k h;simp at h
 | cons x ks ih=>
  intro i k h
  cases i with
  | zero=>simp at h;subst h;simp[Sx.kidsT]
  | succ i=>have:=ih (by simpa using h);simp[Sx.kidsT] at *;omega
theorem word_cell {w:World} {N gi i:Nat} {ws:List (List UInt8)} {x:List UInt8} (h:GlobAt w N gi ws) (hx:ws[i]?=some x) (hN:N≤w.heap.size):∃ b o c,w.cell? ⟨gi,0,none⟩=some (.slice (some ⟨b,o,none⟩) ws.length c)∧w.cell? ⟨b,o+i,none⟩=some (.string (Lx.bs x))∧gi < w.heap.size∧b < w.heap.size:=by
 obtain ⟨b,o,c,h1,h2,h3⟩:=h
 exact ⟨b,o,c,h1,h3.at_ i x hx,by omega,by have:=h3.lt;omega⟩
def RuleLow (g N:Nat) (r:Sx.Rule):Prop:=∀ (cs:List Value) (w:World),EnvS N w→RuleAt w (fun b=>b < g) r cs→RuleSays g w r cs
theorem form_rule_low {w:World} {S:Nat→Prop} {x:Sx.Rule} {cs:List Value} (h:RuleAt w S x cs):∃ v0 v1 v2 v3 v4 A n c,cs = [.int .i64 v0,.int .i64 v1,.string v2,.int .i64 v3,.int .i64 v4,.slice A n c]:=by
 cases x
 rw[RuleAt] at h
 obtain ⟨A,c,rfl,_⟩:=h
 exact ⟨_,_,_,_,_,_,_,_,rfl⟩
theorem low_keep {g:Nat} {w w':World} (hb:Below g w w'):∀ b,b < g→b < g∧∀ i,w'.cell? ⟨b,i,none⟩=w.cell? ⟨b,i,none⟩:=fun b h=>⟨h,fun i=>hb.cell (p:=⟨b,i,none⟩) h⟩
set_option maxRecDepth 20000 in
set_option maxHeartbeats 4000000 in
theorem lRule5 (g N:Nat) (_hN:N≤g) (co n:Int) (nm:List UInt8) (A:Option Addr) (c:Nat) (w:World) (he:EnvS N w) (l:List Lx.Tok) (h:PrSt g l w)
  (hlen:l.length+(Sx.ruleT (.mk 5 co nm n 0 [])).length≤60000) :
  Calls Tryz.prog 58 #[.pointer (some ⟨g,0,none⟩),.agg #[.int .i64 5,.int .i64 co,.string (Lx.bs nm),.int .i64 n,.int .i64 0,.slice A 0 c]] w (TPost g l (Sx.ruleT (.mk 5 co nm n 0 [])) w):=by
 have hT:Sx.ruleT (.mk 5 co nm n 0 [])=Sx.nameT Sx.wPass::(Sx.refT nm co++[Sx.numT n]):=by rw [Sx.ruleT];simp[Sx.ruleWords]
 rw[hT] at hlen ⊢
 have hglt:=h.lt
 obtain ⟨W,hW⟩:∃ W,W=w.alloc (.cells #[.int .i64 5,.int .i64 co,.string (Lx.bs nm),.int .i64 n,.int .i64 0,.slice A 0 c] 38):=⟨_,rfl⟩
 have hbw:Below w.heap.size w W:=by rw [hW];exact (Below.refl _ _).alloc (Nat.le_refl _) _
 have hbx:Blk W w.heap.size 38 #[.int .i64 5,.int .i64 co,.string (Lx.bs nm),.int .i64 n,.int .i64 0,.slice A 0 c]:=by rw [hW];exact Blk.new _ _ _
 have hpi:PI g l W W:=PI.start (h.next hbw)
 have heW:=he.next hbw
 obtain ⟨wb,wo,wc,gl,wl,gl1,wl1⟩:=word_cell (i:=4) (x:=Sx.wPass) he.rule rfl he.size
 have hw9:Sx.ruleWords.length=9:=rfl
 rw[hw9] at gl
 try rw [Nat.add_zero] at wl
 have H:=Lh hpi;have Hbw:=Lh hbw;have Hbx:=Lh hbx
 have hWs:W.heap.size=w.heap.size+1:=by rw [hW];simp
 clear h he hpi hbw hbx heW hw9 hT
 go_enter Tryz.func58,Tryz.ntmps58
 go_wp2_with fail
 rw[←hW]
 refine (H.out.put [.name Sx.wPass] (ts:=[Sx.nameT Sx.wPass]) hWs.symm rfl rfl rfl (by simp) (by simp at hlen ⊢;omega) (by simp)).mono ?_
 rintro e w1 ⟨rfl,h1⟩
 have H1:=Lh h1
 obtain ⟨x0,x1,x2,x3,x4,x5,z1⟩:=cells6 (h1.blk Hbx.out (by decide) (by decide))
 clear h1
 go_wp2_with fail
 refine (H1.out.ref nm co (by simp at hlen ⊢;omega)).mono ?_
 rintro e w2 ⟨rfl,h2⟩
 have H2:=Lh h2
 obtain ⟨x0,x1,x2,x3,x4,x5,z2⟩:=cells6 (h2.blk Hbx.out (by decide) (by decide))
 clear h2
 go_wp2_with fail
 refine (H2.out.put [.num n] (ts:=[Sx.numT n]) rfl rfl rfl rfl (by simp) (by simp at hlen ⊢;omega) (by simp)).mono ?_
 rintro e w3 ⟨rfl,h3⟩
 have H3:=Lh h3
 obtain ⟨x0,x1,x2,x3,x4,x5,z3⟩:=cells6 (h3.blk Hbx.out (by decide) (by decide))
 clear h3
 go_wp2_with fail
 go_end0
 exact ⟨rfl,by have:=H3.out.st;simpa [Sx.nameT,Sx.numT,Sx.sgT,Sx.ratioT] using this,(Hbw.out.mono (by omega)).trans H3.out.bel,(KP.below Hbw.out).trans H3.out.kp⟩
set_option maxRecDepth 20000 in
set_option maxHeartbeats 4000000 in
theorem lRule6 (g N:Nat) (_hN:N≤g) (co n:Int) (nm:List UInt8) (A:Option Addr) (c:Nat) (w:World) (he:EnvS N w) (l:List Lx.Tok) (h:PrSt g l w)
  (hlen:l.length+(Sx.ruleT (.mk 6 co nm n 0 [])).length≤60000) :
  Calls Tryz.prog 58 #[.pointer (some ⟨g,0,none⟩),.agg #[.int .i64 6,.int .i64 co,.string (Lx.bs nm),.int .i64 n,.int .i64 0,.slice A 0 c]] w (TPost g l (Sx.ruleT (.mk 6 co nm n 0 [])) w):=by
 have hT:Sx.ruleT (.mk 6 co nm n 0 [])=Sx.nameT Sx.wTries::(Sx.refT nm co++[Sx.numT n]):=by rw [Sx.ruleT];simp[Sx.ruleWords]
 rw[hT] at hlen ⊢
 have hglt:=h.lt
 obtain ⟨W,hW⟩:∃ W,W=w.alloc (.cells #[.int .i64 6,.int .i64 co,.string (Lx.bs nm),.int .i64 n,.int .i64 0,.slice A 0 c] 38):=⟨_,rfl⟩
 have hbw:Below w.heap.size w W:=by rw [hW];exact (Below.refl _ _).alloc (Nat.le_refl _) _
 have hbx:Blk W w.heap.size 38 #[.int .i64 6,.int .i64 co,.string (Lx.bs nm),.int .i64 n,.int .i64 0,.slice A 0 c]:=by rw [hW];exact Blk.new _ _ _
 have hpi:PI g l W W:=PI.start (h.next hbw)
 have heW:=he.next hbw
 obtain ⟨wb,wo,wc,gl,wl,gl1,wl1⟩:=word_cell (i:=5) (x:=Sx.wTries) he.rule rfl he.size
 have hw9:Sx.ruleWords.length=9:=rfl
 rw[hw9] at gl
 try rw [Nat.add_zero] at wl
 have H:=Lh hpi;have Hbw:=Lh hbw;have Hbx:=Lh hbx
 have hWs:W.heap.size=w.heap.size+1:=by rw [hW];simp
 clear h he hpi hbw hbx heW hw9 hT
 go_enter Tryz.func58,Tryz.ntmps58
 go_wp2_with fail
 rw[←hW]
 refine (H.out.put [.name Sx.wTries] (ts:=[Sx.nameT Sx.wTries]) hWs.symm rfl rfl rfl (by simp) (by simp at hlen ⊢;omega) (by simp)).mono ?_
 rintro e w1 ⟨rfl,h1⟩
 have H1:=Lh h1
 obtain ⟨x0,x1,x2,x3,x4,x5,z1⟩:=cells6 (h1.blk Hbx.out (by decide) (by decide))
 clear h1
 go_wp2_with fail
 refine (H1.out.ref nm co (by simp at hlen ⊢;omega)).mono ?_
 rintro e w2 ⟨rfl,h2⟩
 have H2:=Lh h2
 obtain ⟨x0,x1,x2,x3,x4,x5,z2⟩:=cells6 (h2.blk Hbx.out (by decide) (by decide))
 clear h2
 go_wp2_with fail
 refine (H2.out.put [.num n] (ts:=[Sx.numT n]) rfl rfl rfl rfl (by simp) (by simp at hlen ⊢;omega) (by simp)).mono ?_
 rintro e w3 ⟨rfl,h3⟩
 have H3:=Lh h3
 obtain ⟨x0,x1,x2,x3,x4,x5,z3⟩:=cells6 (h3.blk Hbx.out (by decide) (by decide))
 clear h3
 go_wp2_with fail
 go_end0
 exact ⟨rfl,by have:=H3.out.st;simpa [Sx.nameT,Sx.numT,Sx.sgT,Sx.ratioT] using this,(Hbw.out.mono (by omega)).trans H3.out.bel,(KP.below Hbw.out).trans H3.out.kp⟩
set_option maxRecDepth 20000 in
set_option maxHeartbeats 4000000 in
theorem lRule7 (g N:Nat) (_hN:N≤g) (n:Int) (A:Option Addr) (c:Nat) (w:World) (he:EnvS N w) (l:List Lx.Tok) (h:PrSt g l w)
  (hlen:l.length+(Sx.ruleT (.mk 7 0 [] n 0 [])).length≤60000) :
  Calls Tryz.prog 58 #[.pointer (some ⟨g,0,none⟩),.agg #[.int .i64 7,.int .i64 0,.string (Lx.bs []),.int .i64 n,.int .i64 0,.slice A 0 c]] w (TPost g l (Sx.ruleT (.mk 7 0 [] n 0 [])) w):=by
 have hT:Sx.ruleT (.mk 7 0 [] n 0 [])=Sx.nameT Sx.wEarn::([Sx.numT n]):=by rw [Sx.ruleT];simp[Sx.ruleWords]
 rw[hT] at hlen ⊢
 have hglt:=h.lt
 obtain ⟨W,hW⟩:∃ W,W=w.alloc (.cells #[.int .i64 7,.int .i64 0,.string (Lx.bs []),.int .i64 n,.int .i64 0,.slice A 0 c] 38):=⟨_,rfl⟩
 have hbw:Below w.heap.size w W:=by rw [hW];exact (Below.refl _ _).alloc (Nat.le_refl _) _
 have hbx:Blk W w.heap.size 38 #[.int .i64 7,.int .i64 0,.string (Lx.bs []),.int .i64 n,.int .i64 0,.slice A 0 c]:=by rw [hW];exact Blk.new _ _ _
 have hpi:PI g l W W:=PI.start (h.next hbw)
 have heW:=he.next hbw
 obtain ⟨wb,wo,wc,gl,wl,gl1,wl1⟩:=word_cell (i:=6) (x:=Sx.wEarn) he.rule rfl he.size
 have hw9:Sx.ruleWords.length=9:=rfl
 rw[hw9] at gl
 try rw [Nat.add_zero] at wl
 have H:=Lh hpi;have Hbw:=Lh hbw;have Hbx:=Lh hbx
 have hWs:W.heap.size=w.heap.size+1:=by rw [hW];simp
 clear h he hpi hbw hbx heW hw9 hT
 go_enter Tryz.func58,Tryz.ntmps58
 go_wp2_with fail
 rw[←hW]
 refine (H.out.put [.name Sx.wEarn] (ts:=[Sx.nameT Sx.wEarn]) hWs.symm rfl rfl rfl (by simp) (by simp at hlen ⊢;omega) (by simp)).mono ?_
 rintro e w1 ⟨rfl,h1⟩
 have H1:=Lh h1
 obtain ⟨x0,x1,x2,x3,x4,x5,z1⟩:=cells6 (h1.blk Hbx.out (by decide) (by decide))
 clear h1
 go_wp2_with fail
 refine (H1.out.put [.num n] (ts:=[Sx.numT n]) rfl rfl rfl rfl (by simp) (by simp at hlen ⊢;omega) (by simp)).mono ?_
 rintro e w2 ⟨rfl,h2⟩
 have H2:=Lh h2
 obtain ⟨x0,x1,x2,x3,x4,x5,z2⟩:=cells6 (h2.blk Hbx.out (by decide) (by decide))
 clear h2
 go_wp2_with fail
 go_end0
 exact ⟨rfl,by have:=H2.out.st;simpa [Sx.nameT,Sx.numT,Sx.sgT,Sx.ratioT] using this,(Hbw.out.mono (by omega)).trans H2.out.bel,(KP.below Hbw.out).trans H2.out.kp⟩
set_option maxRecDepth 20000 in
set_option maxHeartbeats 4000000 in
theorem lRule8 (g N:Nat) (_hN:N≤g) (n d:Int) (A:Option Addr) (c:Nat) (w:World) (he:EnvS N w) (l:List Lx.Tok) (h:PrSt g l w)
  (hlen:l.length+(Sx.ruleT (.mk 8 0 [] n d [])).length≤60000) :
  Calls Tryz.prog 58 #[.pointer (some ⟨g,0,none⟩),.agg #[.int .i64 8,.int .i64 0,.string (Lx.bs []),.int .i64 n,.int .i64 d,.slice A 0 c]] w (TPost g l (Sx.ruleT (.mk 8 0 [] n d [])) w):=by
 have hT:Sx.ruleT (.mk 8 0 [] n d [])=Sx.nameT Sx.wMean::(Sx.ratioT ⟨n,d⟩):=by rw [Sx.ruleT];simp[Sx.ruleWords]
 rw[hT] at hlen ⊢
 have hglt:=h.lt
 obtain ⟨W,hW⟩:∃ W,W=w.alloc (.cells #[.int .i64 8,.int .i64 0,.string (Lx.bs []),.int .i64 n,.int .i64 d,.slice A 0 c] 38):=⟨_,rfl⟩
 have hbw:Below w.heap.size w W:=by rw [hW];exact (Below.refl _ _).alloc (Nat.le_refl _) _
 have hbx:Blk W w.heap.size 38 #[.int .i64 8,.int .i64 0,.string (Lx.bs []),.int .i64 n,.int .i64 d,.slice A 0 c]:=by rw [hW];exact Blk.new _ _ _
 have hpi:PI g l W W:=PI.start (h.next hbw)
 have heW:=he.next hbw
 obtain ⟨wb,wo,wc,gl,wl,gl1,wl1⟩:=word_cell (i:=7) (x:=Sx.wMean) he.rule rfl he.size
 have hw9:Sx.ruleWords.length=9:=rfl
 rw[hw9] at gl
 try rw [Nat.add_zero] at wl
 have H:=Lh hpi;have Hbw:=Lh hbw;have Hbx:=Lh hbx
 have hWs:W.heap.size=w.heap.size+1:=by rw [hW];simp
 clear h he hpi hbw hbx heW hw9 hT
 go_enter Tryz.func58,Tryz.ntmps58
 go_wp2_with fail
 rw[←hW]
 refine (H.out.put [.name Sx.wMean] (ts:=[Sx.nameT Sx.wMean]) hWs.symm rfl rfl rfl (by simp) (by simp at hlen ⊢;omega) (by simp)).mono ?_
 rintro e w1 ⟨rfl,h1⟩
 have H1:=Lh h1
 obtain ⟨x0,x1,x2,x3,x4,x5,z1⟩:=cells6 (h1.blk Hbx.out (by decide) (by decide))
 clear h1
 go_wp2_with fail
 refine (H1.out.put [.ratio ⟨n,d⟩] (ts:=Sx.ratioT ⟨n,d⟩) rfl rfl rfl rfl (by simp) (by simp [Sx.ratioT] at hlen ⊢;omega) (by simp)).mono ?_
 rintro e w2 ⟨rfl,h2⟩
 have H2:=Lh h2
 obtain ⟨x0,x1,x2,x3,x4,x5,z2⟩:=cells6 (h2.blk Hbx.out (by decide) (by decide))
 clear h2
 go_wp2_with fail
 go_end0
 exact ⟨rfl,by have:=H2.out.st;simpa [Sx.nameT,Sx.numT,Sx.sgT,Sx.ratioT] using this,(Hbw.out.mono (by omega)).trans H2.out.bel,(KP.below Hbw.out).trans H2.out.kp⟩
set_option maxRecDepth 20000 in
set_option maxHeartbeats 4000000 in
theorem lRule9 (g N:Nat) (_hN:N≤g) (co:Int) (nm:List UInt8) (A:Option Addr) (c:Nat) (w:World) (he:EnvS N w) (l:List Lx.Tok) (h:PrSt g l w)
  (hlen:l.length+(Sx.ruleT (.mk 9 co nm 0 0 [])).length≤60000) :
  Calls Tryz.prog 58 #[.pointer (some ⟨g,0,none⟩),.agg #[.int .i64 9,.int .i64 co,.string (Lx.bs nm),.int .i64 0,.int .i64 0,.slice A 0 c]] w (TPost g l (Sx.ruleT (.mk 9 co nm 0 0 [])) w):=by
 have hT:Sx.ruleT (.mk 9 co nm 0 0 [])=Sx.nameT Sx.wWith::(Sx.refT nm co):=by rw [Sx.ruleT];simp[Sx.ruleWords]
 rw[hT] at hlen ⊢
 have hglt:=h.lt
 obtain ⟨W,hW⟩:∃ W,W=w.alloc (.cells #[.int .i64 9,.int .i64 co,.string (Lx.bs nm),.int .i64 0,.int .i64 0,.slice A 0 c] 38):=⟨_,rfl⟩
 have hbw:Below w.heap.size w W:=by rw [hW];exact (Below.refl _ _).alloc (Nat.le_refl _) _
 have hbx:Blk W w.heap.size 38 #[.int .i64 9,.int .i64 co,.string (Lx.bs nm),.int .i64 0,.int .i64 0,.slice A 0 c]:=by rw [hW];exact Blk.new _ _ _
 have hpi:PI g l W W:=PI.start (h.next hbw)
 have heW:=he.next hbw
 obtain ⟨wb,wo,wc,gl,wl,gl1,wl1⟩:=word_cell (i:=8) (x:=Sx.wWith) he.rule rfl he.size
 have hw9:Sx.ruleWords.length=9:=rfl
 rw[hw9] at gl
 try rw [Nat.add_zero] at wl
 have H:=Lh hpi;have Hbw:=Lh hbw;have Hbx:=Lh hbx
 have hWs:W.heap.size=w.heap.size+1:=by rw [hW];simp
 clear h he hpi hbw hbx heW hw9 hT
 go_enter Tryz.func58,Tryz.ntmps58
 go_wp2_with fail
 rw[←hW]
 refine (H.out.put [.name Sx.wWith] (ts:=[Sx.nameT Sx.wWith]) hWs.symm rfl rfl rfl (by simp) (by simp at hlen ⊢;omega) (by simp)).mono ?_
 rintro e w1 ⟨rfl,h1⟩
 have H1:=Lh h1
 obtain ⟨x0,x1,x2,x3,x4,x5,z1⟩:=cells6 (h1.blk Hbx.out (by decide) (by decide))
 clear h1
 go_wp2_with fail
 refine (H1.out.ref nm co (by simp at hlen ⊢;omega)).mono ?_
 rintro e w2 ⟨rfl,h2⟩
 have H2:=Lh h2
 obtain ⟨x0,x1,x2,x3,x4,x5,z2⟩:=cells6 (h2.blk Hbx.out (by decide) (by decide))
 clear h2
 go_wp2_with fail
 go_end0
 exact ⟨rfl,by have:=H2.out.st;simpa [Sx.nameT,Sx.numT,Sx.sgT,Sx.ratioT] using this,(Hbw.out.mono (by omega)).trans H2.out.bel,(KP.below Hbw.out).trans H2.out.kp⟩
set_option maxRecDepth 20000 in
set_option maxHeartbeats 4000000 in
theorem lRule4 (g N:Nat) (_hN:N≤g) (q:Sx.Rule) (hq:RuleLow g N q) (A:Option Addr) (c:Nat) (w:World) (he:EnvS N w) (hA:KidsAt w (fun b=>b < g) A 0 [q]) (l:List Lx.Tok) (h:PrSt g l w)
  (hlen:l.length+(Sx.ruleT (.mk 4 0 [] 0 0 [q])).length≤60000) :
  Calls Tryz.prog 58 #[.pointer (some ⟨g,0,none⟩),.agg #[.int .i64 4,.int .i64 0,.string (Lx.bs []),.int .i64 0,.int .i64 0,.slice A 1 c]] w (TPost g l (Sx.ruleT (.mk 4 0 [] 0 0 [q])) w):=by
 have hT:Sx.ruleT (.mk 4 0 [] 0 0 [q])=Sx.nameT Sx.wNot::(Sx.ruleT q):=by rw [Sx.ruleT];simp[Sx.ruleWords,Sx.notT]
 rw[hT] at hlen ⊢
 have hglt:=h.lt
 obtain ⟨W,hW⟩:∃ W,W=w.alloc (.cells #[.int .i64 4,.int .i64 0,.string (Lx.bs []),.int .i64 0,.int .i64 0,.slice A 1 c] 38):=⟨_,rfl⟩
 have hbw:Below w.heap.size w W:=by rw [hW];exact (Below.refl _ _).alloc (Nat.le_refl _) _
 have hbx:Blk W w.heap.size 38 #[.int .i64 4,.int .i64 0,.string (Lx.bs []),.int .i64 0,.int .i64 0,.slice A 1 c]:=by rw [hW];exact Blk.new _ _ _
 have hpi:PI g l W W:=PI.start (h.next hbw)
 have heW:=he.next hbw
 obtain ⟨wb,wo,wc,gl,wl,gl1,wl1⟩:=word_cell (i:=3) (x:=Sx.wNot) he.rule rfl he.size
 have hw9:Sx.ruleWords.length=9:=rfl
 rw[hw9] at gl
 try rw [Nat.add_zero] at wl
 have H:=Lh hpi;have Hbw:=Lh hbw;have Hbx:=Lh hbx
 have hWs:W.heap.size=w.heap.size+1:=by rw [hW];simp
 obtain ⟨bk,okk,csk,rfl,hSk,hrk,hck⟩:=hA.get 0 q rfl
 have hsay:=hq csk W heW (RuleAt.keep (low_keep (hbw.mono (by omega))) _ _ hrk)
 obtain ⟨v0,v1,v2,v3,v4,kA,kn,kc,rfl⟩:=form_rule_low hrk
 have Hsay:=Lh hsay
 have k0:=(hbw.cell (p:=⟨bk,_,none⟩) (show bk < w.heap.size by omega)).trans (hck 0 _ rfl)
 have k1:=(hbw.cell (p:=⟨bk,_,none⟩) (show bk < w.heap.size by omega)).trans (hck 1 _ rfl)
 have k2:=(hbw.cell (p:=⟨bk,_,none⟩) (show bk < w.heap.size by omega)).trans (hck 2 _ rfl)
 have k3:=(hbw.cell (p:=⟨bk,_,none⟩) (show bk < w.heap.size by omega)).trans (hck 3 _ rfl)
 have k4:=(hbw.cell (p:=⟨bk,_,none⟩) (show bk < w.heap.size by omega)).trans (hck 4 _ rfl)
 have k5:=(hbw.cell (p:=⟨bk,_,none⟩) (show bk < w.heap.size by omega)).trans (hck 5 _ rfl)
 simp only[Nat.add_zero,Nat.zero_mul] at k0 k1 k2 k3 k4 k5
 have Hck:Hid (∀ W',Below g W W'→W'.cell? ⟨bk,okk,none⟩=some (.int .i64 v0)∧W'.cell? ⟨bk,okk+1,none⟩=some (.int .i64 v1)∧W'.cell? ⟨bk,okk+2,none⟩=some (.string v2)∧W'.cell? ⟨bk,okk+3,none⟩=some (.int .i64 v3)∧W'.cell? ⟨bk,okk+4,none⟩=some (.int .i64 v4)∧W'.cell? ⟨bk,okk+5,none⟩=some (.slice kA kn kc)):=Lh (fun W' hb=>⟨(hb.cell (p:=⟨bk,_,none⟩) hSk).trans k0,(hb.cell (p:=⟨bk,_,none⟩) hSk).trans k1,(hb.cell (p:=⟨bk,_,none⟩) hSk).trans k2,(hb.cell (p:=⟨bk,_,none⟩) hSk).trans k3,(hb.cell (p:=⟨bk,_,none⟩) hSk).trans k4,(hb.cell (p:=⟨bk,_,none⟩) hSk).trans k5⟩)
 clear k0 k1 k2 k3 k4 k5
 clear h he hpi hbw hbx heW hw9 hT hq hA hsay hrk hck
 go_enter Tryz.func58,Tryz.ntmps58
 go_wp2_with fail
 rw[←hW]
 refine (H.out.put [.name Sx.wNot] (ts:=[Sx.nameT Sx.wNot]) hWs.symm rfl rfl rfl (by simp) (by simp at hlen ⊢;omega) (by simp)).mono ?_
 rintro e w1 ⟨rfl,h1⟩
 have H1:=Lh h1
 obtain ⟨x0,x1,x2,x3,x4,x5,z1⟩:=cells6 (h1.blk Hbx.out (by decide) (by decide))
 obtain ⟨k0,k1,k2,k3,k4,k5⟩:=Hck.out w1 h1.bel
 clear h1
 go_wp2_with fail
 refine (H1.out.rule Hsay.out (by simp at hlen ⊢;omega)).mono ?_
 rintro e w2 ⟨rfl,h2⟩
 have H2:=Lh h2
 obtain ⟨x0,x1,x2,x3,x4,x5,z2⟩:=cells6 (h2.blk Hbx.out (by decide) (by decide))
 clear h2
 go_wp2_with fail
 go_end0
 exact ⟨rfl,by have:=H2.out.st;simpa [Sx.nameT,Sx.numT,Sx.sgT,Sx.ratioT] using this,(Hbw.out.mono (by omega)).trans H2.out.bel,(KP.below Hbw.out).trans H2.out.kp⟩
set_option maxRecDepth 20000 in
set_option maxHeartbeats 4000000 in
theorem lRule1 (g N:Nat) (_hN:N≤g) (ks:List Sx.Rule) (hks:∀ k∈ks,RuleLow g N k) (m:Nat) (hm:m=ks.length) (hm2:m≤200) (A:Option Addr) (c:Nat) (w:World) (he:EnvS N w) (hA:KidsAt w (fun b=>b < g) A 0 ks) (l:List Lx.Tok) (h:PrSt g l w)
  (hlen:l.length+(Sx.ruleT (.mk 1 0 [] 0 0 ks)).length≤60000) :
  Calls Tryz.prog 58 #[.pointer (some ⟨g,0,none⟩),.agg #[.int .i64 1,.int .i64 0,.string (Lx.bs []),.int .i64 0,.int .i64 0,.slice A m c]] w (TPost g l (Sx.ruleT (.mk 1 0 [] 0 0 ks)) w):=by
 have hT:Sx.ruleT (.mk 1 0 [] 0 0 ks)=Sx.nameT Sx.wAll::(Sx.sgT 123::(Sx.kidsT ks++[Sx.sgT 125])):=by rw [Sx.ruleT];simp[Sx.ruleWords]
 rw[hT] at hlen ⊢
 have hglt:=h.lt
 obtain ⟨W,hW⟩:∃ W,W=w.alloc (.cells #[.int .i64 1,.int .i64 0,.string (Lx.bs []),.int .i64 0,.int .i64 0,.slice A m c] 38):=⟨_,rfl⟩
 have hbw:Below w.heap.size w W:=by rw [hW];exact (Below.refl _ _).alloc (Nat.le_refl _) _
 have hbx:Blk W w.heap.size 38 #[.int .i64 1,.int .i64 0,.string (Lx.bs []),.int .i64 0,.int .i64 0,.slice A m c]:=by rw [hW];exact Blk.new _ _ _
 have hpi:PI g l W W:=PI.start (h.next hbw)
 have heW:=he.next hbw
 obtain ⟨wb,wo,wc,gl,wl,gl1,wl1⟩:=word_cell (i:=0) (x:=Sx.wAll) he.rule rfl he.size
 have hw9:Sx.ruleWords.length=9:=rfl
 rw[hw9] at gl
 try rw [Nat.add_zero] at wl
 have H:=Lh hpi;have Hbw:=Lh hbw;have Hbx:=Lh hbx
 have hWs:W.heap.size=w.heap.size+1:=by rw [hW];simp
 have Hsay:Hid (∀ i k,ks[i]?=some k→∃ bk okk v0 v1 v2 v3 v4 kA kn kc,A=some ⟨bk,okk,none⟩∧RuleSays g W k [.int .i64 v0,.int .i64 v1,.string v2,.int .i64 v3,.int .i64 v4,.slice kA kn kc]∧
   ∀ W',Below g W W'→W'.cell? ⟨bk,okk+i*6,none⟩=some (.int .i64 v0)∧W'.cell? ⟨bk,okk+i*6+1,none⟩=some (.int .i64 v1)∧W'.cell? ⟨bk,okk+i*6+2,none⟩=some (.string v2)∧W'.cell? ⟨bk,okk+i*6+3,none⟩=some (.int .i64 v3)∧W'.cell? ⟨bk,okk+i*6+4,none⟩=some (.int .i64 v4)∧W'.cell? ⟨bk,okk+i*6+5,none⟩=some (.slice kA kn kc)):=Lh (fun i k hi=>by
  obtain ⟨bk,okk,csk,e,hSk,hrk,hck⟩:=hA.get i k hi
  have hsay:=hks k (List.mem_of_getElem? hi) csk W heW (RuleAt.keep (low_keep (hbw.mono (by omega))) _ _ hrk)
  obtain ⟨v0,v1,v2,v3,v4,kA,kn,kc,rfl⟩:=form_rule_low hrk
  have key:∀ j v,[Value.int .i64 v0,.int .i64 v1,.string v2,.int .i64 v3,.int .i64 v4,.slice kA kn kc][j]?=some v→∀ W',Below g W W'→W'.cell? ⟨bk,okk+i*6+j,none⟩=some v:=fun j v hj W' hb=>by
   have e1:=hck j v hj
   rw[Nat.zero_add] at e1
   exact ((hb.cell (p:=⟨bk,_,none⟩) hSk).trans (hbw.cell (p:=⟨bk,_,none⟩) (show bk < w.heap.size by omega))).trans e1
  exact ⟨bk,okk,v0,v1,v2,v3,v4,kA,kn,kc,e,hsay,fun W' hb=>⟨key 0 _ rfl W' hb,key 1 _ rfl W' hb,key 2 _ rfl W' hb,key 3 _ rfl W' hb,key 4 _ rfl W' hb,key 5 _ rfl W' hb⟩⟩)
 have Hm:=Lh hm
 clear h he hpi hbw hbx heW hw9 hT hks hA hm
 go_enter Tryz.func58,Tryz.ntmps58
 go_wp2_with fail
 rw[←hW]
 refine (H.out.put [.name Sx.wAll] (ts:=[Sx.nameT Sx.wAll]) hWs.symm rfl rfl rfl (by simp) (by simp at hlen ⊢;omega) (by simp)).mono ?_
 rintro e w1 ⟨rfl,h1⟩
 have H1:=Lh h1
 obtain ⟨x0,x1,x2,x3,x4,x5,z1⟩:=cells6 (h1.blk Hbx.out (by decide) (by decide))
 clear h1
 go_wp2_with fail
 refine (H1.out.put [.sign [123]] (ts:=[Sx.sgT 123]) rfl rfl rfl rfl (by simp) (by simp at hlen ⊢;omega) (by simp)).mono ?_
 rintro e w2 ⟨rfl,h2⟩
 have H2:=Lh h2
 obtain ⟨x0,x1,x2,x3,x4,x5,z2⟩:=cells6 (h2.blk Hbx.out (by decide) (by decide))
 clear h2
 go_wp2_with fail
 have Hst:Hid (PI g (l++([Sx.nameT Sx.wAll,Sx.sgT 123]++Sx.kidsT (ks.take 0))) W w2):=Lh (by have:=H2.out;simpa [Sx.kidsT,Sx.nameT,Sx.sgT,Sx.numT] using this)
 go_loopg [83] m (fun gk v83 wr=>∃ i:Nat,v83 = .int .i64 i∧i+gk=m∧Hid (PI g (l++([Sx.nameT Sx.wAll,Sx.sgT 123]++Sx.kidsT (ks.take i))) W wr))
 case atStart=>exact ⟨0,rfl,by omega,Hst⟩
 case round=>
  obtain ⟨i,rfl,hi,HP⟩:=hrel
  have hgr:=HP.out.st.lt
  by_cases hlt:i < m
  ·obtain ⟨k,hk⟩:∃ k,ks[i]?=some k:=⟨_,List.getElem?_eq_getElem (by have:=Hm.out;omega)⟩
   obtain ⟨bk,okk,v0,v1,v2,v3,v4,kA,kn,kc,rfl,hsay,hck⟩:=Hsay.out i k hk
   obtain ⟨k0,k1,k2,k3,k4,k5⟩:=hck wr HP.out.bel
   have Hs:=Lh hsay;have Hk:=Lh hk
   have hkl:l.length+(Sx.kidsT (ks.take i)).length+(Sx.ruleT k).length+4≤60000:=by have:=Sx.kidsT_le hk;simp at hlen;omega
   clear hsay hck hk
   go_wp2_with fail
   have hPn:=HP.out.next ((Below.refl _ _).alloc (Nat.le_refl _) (.cells #[.int .i64 v0,.int .i64 v1,.string v2,.int .i64 v3,.int .i64 v4,.slice kA kn kc] 38))
   refine (hPn.put [.rule k [.int .i64 v0,.int .i64 v1,.string v2,.int .i64 v3,.int .i64 v4,.slice kA kn kc],.sign [59]] (ts:=Sx.ruleT k++[Sx.sgT 59]) (by simp) rfl rfl rfl (by simp) (by simp;omega) (fun r c hr=>by
    simp only[List.mem_cons,PrIt.rule.injEq,List.not_mem_nil,or_false,reduceCtorEq] at hr
    rw[hr.1,hr.2];exact Hs.out)).mono ?_
   rintro e w9 ⟨rfl,h9⟩
   have H9:=Lh h9
   clear h9 hPn
   go_wp2_with fail
   go_roundg (gk - 1)
   all_goals first
    | omega
    | exact ⟨i+1,by go_num,by omega,Lh (by
      have:=H9.out
      rw[List.take_add_one,Hk.out]
      simp only[Option.toList_some,Sx.kidsT_snoc]
      simpa using this)⟩
  ·obtain rfl:i=m:=by omega
   go_wp2_with fail
   refine (HP.out.put [.sign [125]] (ts:=[Sx.sgT 125]) rfl rfl rfl rfl (by simp) (by rw [Hm.out,List.take_length];simp at hlen ⊢;omega) (by simp)).mono ?_
   rintro e w9 ⟨rfl,h9⟩
   have H9:=Lh h9
   clear h9
   go_wp2_with fail
   go_end0
   exact ⟨rfl,by have:=H9.out.st;rw[Hm.out,List.take_length] at this;simpa [Sx.nameT,Sx.numT,Sx.sgT] using this,(Hbw.out.mono (by omega)).trans H9.out.bel,(KP.below Hbw.out).trans H9.out.kp⟩
set_option maxRecDepth 20000 in
set_option maxHeartbeats 4000000 in
theorem lRule2 (g N:Nat) (_hN:N≤g) (ks:List Sx.Rule) (hks:∀ k∈ks,RuleLow g N k) (m:Nat) (hm:m=ks.length) (hm2:m≤200) (A:Option Addr) (c:Nat) (w:World) (he:EnvS N w) (hA:KidsAt w (fun b=>b < g) A 0 ks) (l:List Lx.Tok) (h:PrSt g l w)
  (hlen:l.length+(Sx.ruleT (.mk 2 0 [] 0 0 ks)).length≤60000) :
  Calls Tryz.prog 58 #[.pointer (some ⟨g,0,none⟩),.agg #[.int .i64 2,.int .i64 0,.string (Lx.bs []),.int .i64 0,.int .i64 0,.slice A m c]] w (TPost g l (Sx.ruleT (.mk 2 0 [] 0 0 ks)) w):=by
 have hT:Sx.ruleT (.mk 2 0 [] 0 0 ks)=Sx.nameT Sx.wAny::(Sx.sgT 123::(Sx.kidsT ks++[Sx.sgT 125])):=by rw [Sx.ruleT];simp[Sx.ruleWords]
 rw[hT] at hlen ⊢
 have hglt:=h.lt
 obtain ⟨W,hW⟩:∃ W,W=w.alloc (.cells #[.int .i64 2,.int .i64 0,.string (Lx.bs []),.int .i64 0,.int .i64 0,.slice A m c] 38):=⟨_,rfl⟩
 have hbw:Below w.heap.size w W:=by rw [hW];exact (Below.refl _ _).alloc (Nat.le_refl _) _
 have hbx:Blk W w.heap.size 38 #[.int .i64 2,.int .i64 0,.string (Lx.bs []),.int .i64 0,.int .i64 0,.slice A m c]:=by rw [hW];exact Blk.new _ _ _
 have hpi:PI g l W W:=PI.start (h.next hbw)
 have heW:=he.next hbw
 obtain ⟨wb,wo,wc,gl,wl,gl1,wl1⟩:=word_cell (i:=1) (x:=Sx.wAny) he.rule rfl he.size
 have hw9:Sx.ruleWords.length=9:=rfl
 rw[hw9] at gl
 try rw [Nat.add_zero] at wl
 have H:=Lh hpi;have Hbw:=Lh hbw;have Hbx:=Lh hbx
 have hWs:W.heap.size=w.heap.size+1:=by rw [hW];simp
 have Hsay:Hid (∀ i k,ks[i]?=some k→∃ bk okk v0 v1 v2 v3 v4 kA kn kc,A=some ⟨bk,okk,none⟩∧RuleSays g W k [.int .i64 v0,.int .i64 v1,.string v2,.int .i64 v3,.int .i64 v4,.slice kA kn kc]∧
   ∀ W',Below g W W'→W'.cell? ⟨bk,okk+i*6,none⟩=some (.int .i64 v0)∧W'.cell? ⟨bk,okk+i*6+1,none⟩=some (.int .i64 v1)∧W'.cell? ⟨bk,okk+i*6+2,none⟩=some (.string v2)∧W'.cell? ⟨bk,okk+i*6+3,none⟩=some (.int .i64 v3)∧W'.cell? ⟨bk,okk+i*6+4,none⟩=some (.int .i64 v4)∧W'.cell? ⟨bk,okk+i*6+5,none⟩=some (.slice kA kn kc)):=Lh (fun i k hi=>by
  obtain ⟨bk,okk,csk,e,hSk,hrk,hck⟩:=hA.get i k hi
  have hsay:=hks k (List.mem_of_getElem? hi) csk W heW (RuleAt.keep (low_keep (hbw.mono (by omega))) _ _ hrk)
  obtain ⟨v0,v1,v2,v3,v4,kA,kn,kc,rfl⟩:=form_rule_low hrk
  have key:∀ j v,[Value.int .i64 v0,.int .i64 v1,.string v2,.int .i64 v3,.int .i64 v4,.slice kA kn kc][j]?=some v→∀ W',Below g W W'→W'.cell? ⟨bk,okk+i*6+j,none⟩=some v:=fun j v hj W' hb=>by
   have e1:=hck j v hj
   rw[Nat.zero_add] at e1
   exact ((hb.cell (p:=⟨bk,_,none⟩) hSk).trans (hbw.cell (p:=⟨bk,_,none⟩) (show bk < w.heap.size by omega))).trans e1
  exact ⟨bk,okk,v0,v1,v2,v3,v4,kA,kn,kc,e,hsay,fun W' hb=>⟨key 0 _ rfl W' hb,key 1 _ rfl W' hb,key 2 _ rfl W' hb,key 3 _ rfl W' hb,key 4 _ rfl W' hb,key 5 _ rfl W' hb⟩⟩)
 have Hm:=Lh hm
 clear h he hpi hbw hbx heW hw9 hT hks hA hm
 go_enter Tryz.func58,Tryz.ntmps58
 go_wp2_with fail
 rw[←hW]
 refine (H.out.put [.name Sx.wAny] (ts:=[Sx.nameT Sx.wAny]) hWs.symm rfl rfl rfl (by simp) (by simp at hlen ⊢;omega) (by simp)).mono ?_
 rintro e w1 ⟨rfl,h1⟩
 have H1:=Lh h1
 obtain ⟨x0,x1,x2,x3,x4,x5,z1⟩:=cells6 (h1.blk Hbx.out (by decide) (by decide))
 clear h1
 go_wp2_with fail
 refine (H1.out.put [.sign [123]] (ts:=[Sx.sgT 123]) rfl rfl rfl rfl (by simp) (by simp at hlen ⊢;omega) (by simp)).mono ?_
 rintro e w2 ⟨rfl,h2⟩
 have H2:=Lh h2
 obtain ⟨x0,x1,x2,x3,x4,x5,z2⟩:=cells6 (h2.blk Hbx.out (by decide) (by decide))
 clear h2
 go_wp2_with fail
 have Hst:Hid (PI g (l++([Sx.nameT Sx.wAny,Sx.sgT 123]++Sx.kidsT (ks.take 0))) W w2):=Lh (by have:=H2.out;simpa [Sx.kidsT,Sx.nameT,Sx.sgT,Sx.numT] using this)
 go_loopg [83] m (fun gk v83 wr=>∃ i:Nat,v83 = .int .i64 i∧i+gk=m∧Hid (PI g (l++([Sx.nameT Sx.wAny,Sx.sgT 123]++Sx.kidsT (ks.take i))) W wr))
 case atStart=>exact ⟨0,rfl,by omega,Hst⟩
 case round=>
  obtain ⟨i,rfl,hi,HP⟩:=hrel
  have hgr:=HP.out.st.lt
  by_cases hlt:i < m
  ·obtain ⟨k,hk⟩:∃ k,ks[i]?=some k:=⟨_,List.getElem?_eq_getElem (by have:=Hm.out;omega)⟩
   obtain ⟨bk,okk,v0,v1,v2,v3,v4,kA,kn,kc,rfl,hsay,hck⟩:=Hsay.out i k hk
   obtain ⟨k0,k1,k2,k3,k4,k5⟩:=hck wr HP.out.bel
   have Hs:=Lh hsay;have Hk:=Lh hk
   have hkl:l.length+(Sx.kidsT (ks.take i)).length+(Sx.ruleT k).length+4≤60000:=by have:=Sx.kidsT_le hk;simp at hlen;omega
   clear hsay hck hk
   go_wp2_with fail
   have hPn:=HP.out.next ((Below.refl _ _).alloc (Nat.le_refl _) (.cells #[.int .i64 v0,.int .i64 v1,.string v2,.int .i64 v3,.int .i64 v4,.slice kA kn kc] 38))
   refine (hPn.put [.rule k [.int .i64 v0,.int .i64 v1,.string v2,.int .i64 v3,.int .i64 v4,.slice kA kn kc],.sign [59]] (ts:=Sx.ruleT k++[Sx.sgT 59]) (by simp) rfl rfl rfl (by simp) (by simp;omega) (fun r c hr=>by
    simp only[List.mem_cons,PrIt.rule.injEq,List.not_mem_nil,or_false,reduceCtorEq] at hr
    rw[hr.1,hr.2];exact Hs.out)).mono ?_
   rintro e w9 ⟨rfl,h9⟩
   have H9:=Lh h9
   clear h9 hPn
   go_wp2_with fail
   go_roundg (gk - 1)
   all_goals first
    | omega
    | exact ⟨i+1,by go_num,by omega,Lh (by
      have:=H9.out
      rw[List.take_add_one,Hk.out]
      simp only[Option.toList_some,Sx.kidsT_snoc]
      simpa using this)⟩
  ·obtain rfl:i=m:=by omega
   go_wp2_with fail
   refine (HP.out.put [.sign [125]] (ts:=[Sx.sgT 125]) rfl rfl rfl rfl (by simp) (by rw [Hm.out,List.take_length];simp at hlen ⊢;omega) (by simp)).mono ?_
   rintro e w9 ⟨rfl,h9⟩
   have H9:=Lh h9
   clear h9
   go_wp2_with fail
   go_end0
   exact ⟨rfl,by have:=H9.out.st;rw[Hm.out,List.take_length] at this;simpa [Sx.nameT,Sx.numT,Sx.sgT] using this,(Hbw.out.mono (by omega)).trans H9.out.bel,(KP.below Hbw.out).trans H9.out.kp⟩
set_option maxRecDepth 20000 in
set_option maxHeartbeats 4000000 in
theorem lRule3 (g N:Nat) (_hN:N≤g) (n:Int) (ks:List Sx.Rule) (hks:∀ k∈ks,RuleLow g N k) (m:Nat) (hm:m=ks.length) (hm2:m≤200) (A:Option Addr) (c:Nat) (w:World) (he:EnvS N w) (hA:KidsAt w (fun b=>b < g) A 0 ks) (l:List Lx.Tok) (h:PrSt g l w)
  (hlen:l.length+(Sx.ruleT (.mk 3 0 [] n 0 ks)).length≤60000) :
  Calls Tryz.prog 58 #[.pointer (some ⟨g,0,none⟩),.agg #[.int .i64 3,.int .i64 0,.string (Lx.bs []),.int .i64 n,.int .i64 0,.slice A m c]] w (TPost g l (Sx.ruleT (.mk 3 0 [] n 0 ks)) w):=by
 have hT:Sx.ruleT (.mk 3 0 [] n 0 ks)=Sx.nameT Sx.wLeast::(Sx.numT n::Sx.sgT 123::(Sx.kidsT ks++[Sx.sgT 125])):=by rw [Sx.ruleT];simp[Sx.ruleWords]
 rw[hT] at hlen ⊢
 have hglt:=h.lt
 obtain ⟨W,hW⟩:∃ W,W=w.alloc (.cells #[.int .i64 3,.int .i64 0,.string (Lx.bs []),.int .i64 n,.int .i64 0,.slice A m c] 38):=⟨_,rfl⟩
 have hbw:Below w.heap.size w W:=by rw [hW];exact (Below.refl _ _).alloc (Nat.le_refl _) _
 have hbx:Blk W w.heap.size 38 #[.int .i64 3,.int .i64 0,.string (Lx.bs []),.int .i64 n,.int .i64 0,.slice A m c]:=by rw [hW];exact Blk.new _ _ _
 have hpi:PI g l W W:=PI.start (h.next hbw)
 have heW:=he.next hbw
 obtain ⟨wb,wo,wc,gl,wl,gl1,wl1⟩:=word_cell (i:=2) (x:=Sx.wLeast) he.rule rfl he.size
 have hw9:Sx.ruleWords.length=9:=rfl
 rw[hw9] at gl
 try rw [Nat.add_zero] at wl
 have H:=Lh hpi;have Hbw:=Lh hbw;have Hbx:=Lh hbx
 have hWs:W.heap.size=w.heap.size+1:=by rw [hW];simp
 have Hsay:Hid (∀ i k,ks[i]?=some k→∃ bk okk v0 v1 v2 v3 v4 kA kn kc,A=some ⟨bk,okk,none⟩∧RuleSays g W k [.int .i64 v0,.int .i64 v1,.string v2,.int .i64 v3,.int .i64 v4,.slice kA kn kc]∧
   ∀ W',Below g W W'→W'.cell? ⟨bk,okk+i*6,none⟩=some (.int .i64 v0)∧W'.cell? ⟨bk,okk+i*6+1,none⟩=some (.int .i64 v1)∧W'.cell? ⟨bk,okk+i*6+2,none⟩=some (.string v2)∧W'.cell? ⟨bk,okk+i*6+3,none⟩=some (.int .i64 v3)∧W'.cell? ⟨bk,okk+i*6+4,none⟩=some (.int .i64 v4)∧W'.cell? ⟨bk,okk+i*6+5,none⟩=some (.slice kA kn kc)):=Lh (fun i k hi=>by
  obtain ⟨bk,okk,csk,e,hSk,hrk,hck⟩:=hA.get i k hi
  have hsay:=hks k (List.mem_of_getElem? hi) csk W heW (RuleAt.keep (low_keep (hbw.mono (by omega))) _ _ hrk)
  obtain ⟨v0,v1,v2,v3,v4,kA,kn,kc,rfl⟩:=form_rule_low hrk
  have key:∀ j v,[Value.int .i64 v0,.int .i64 v1,.string v2,.int .i64 v3,.int .i64 v4,.slice kA kn kc][j]?=some v→∀ W',Below g W W'→W'.cell? ⟨bk,okk+i*6+j,none⟩=some v:=fun j v hj W' hb=>by
   have e1:=hck j v hj
   rw[Nat.zero_add] at e1
   exact ((hb.cell (p:=⟨bk,_,none⟩) hSk).trans (hbw.cell (p:=⟨bk,_,none⟩) (show bk < w.heap.size by omega))).trans e1
  exact ⟨bk,okk,v0,v1,v2,v3,v4,kA,kn,kc,e,hsay,fun W' hb=>⟨key 0 _ rfl W' hb,key 1 _ rfl W' hb,key 2 _ rfl W' hb,key 3 _ rfl W' hb,key 4 _ rfl W' hb,key 5 _ rfl W' hb⟩⟩)
 have Hm:=Lh hm
 clear h he hpi hbw hbx heW hw9 hT hks hA hm
 go_enter Tryz.func58,Tryz.ntmps58
 go_wp2_with fail
 rw[←hW]
 refine (H.out.put [.name Sx.wLeast] (ts:=[Sx.nameT Sx.wLeast]) hWs.symm rfl rfl rfl (by simp) (by simp at hlen ⊢;omega) (by simp)).mono ?_
 rintro e w1 ⟨rfl,h1⟩
 have H1:=Lh h1
 obtain ⟨x0,x1,x2,x3,x4,x5,z1⟩:=cells6 (h1.blk Hbx.out (by decide) (by decide))
 clear h1
 go_wp2_with fail
 refine (H1.out.put [.num n] (ts:=[Sx.numT n]) rfl rfl rfl rfl (by simp) (by simp at hlen ⊢;omega) (by simp)).mono ?_
 rintro e w2 ⟨rfl,h2⟩
 have H2:=Lh h2
 obtain ⟨x0,x1,x2,x3,x4,x5,z2⟩:=cells6 (h2.blk Hbx.out (by decide) (by decide))
 clear h2
 go_wp2_with fail
 refine (H2.out.put [.sign [123]] (ts:=[Sx.sgT 123]) rfl rfl rfl rfl (by simp) (by simp at hlen ⊢;omega) (by simp)).mono ?_
 rintro e w3 ⟨rfl,h3⟩
 have H3:=Lh h3
 obtain ⟨x0,x1,x2,x3,x4,x5,z3⟩:=cells6 (h3.blk Hbx.out (by decide) (by decide))
 clear h3
 go_wp2_with fail
 have Hst:Hid (PI g (l++([Sx.nameT Sx.wLeast,Sx.numT n,Sx.sgT 123]++Sx.kidsT (ks.take 0))) W w3):=Lh (by have:=H3.out;simpa [Sx.kidsT,Sx.nameT,Sx.sgT,Sx.numT] using this)
 go_loopg [83] m (fun gk v83 wr=>∃ i:Nat,v83 = .int .i64 i∧i+gk=m∧Hid (PI g (l++([Sx.nameT Sx.wLeast,Sx.numT n,Sx.sgT 123]++Sx.kidsT (ks.take i))) W wr))
 case atStart=>exact ⟨0,rfl,by omega,Hst⟩
 case round=>
  obtain ⟨i,rfl,hi,HP⟩:=hrel
  have hgr:=HP.out.st.lt
  by_cases hlt:i < m
  ·obtain ⟨k,hk⟩:∃ k,ks[i]?=some k:=⟨_,List.getElem?_eq_getElem (by have:=Hm.out;omega)⟩
   obtain ⟨bk,okk,v0,v1,v2,v3,v4,kA,kn,kc,rfl,hsay,hck⟩:=Hsay.out i k hk
   obtain ⟨k0,k1,k2,k3,k4,k5⟩:=hck wr HP.out.bel
   have Hs:=Lh hsay;have Hk:=Lh hk
   have hkl:l.length+(Sx.kidsT (ks.take i)).length+(Sx.ruleT k).length+4≤60000:=by have:=Sx.kidsT_le hk;simp at hlen;omega
   clear hsay hck hk
   go_wp2_with fail
   have hPn:=HP.out.next ((Below.refl _ _).alloc (Nat.le_refl _) (.cells #[.int .i64 v0,.int .i64 v1,.string v2,.int .i64 v3,.int .i64 v4,.slice kA kn kc] 38))
   refine (hPn.put [.rule k [.int .i64 v0,.int .i64 v1,.string v2,.int .i64 v3,.int .i64 v4,.slice kA kn kc],.sign [59]] (ts:=Sx.ruleT k++[Sx.sgT 59]) (by simp) rfl rfl rfl (by simp) (by simp;omega) (fun r c hr=>by
    simp only[List.mem_cons,PrIt.rule.injEq,List.not_mem_nil,or_false,reduceCtorEq] at hr
    rw[hr.1,hr.2];exact Hs.out)).mono ?_
   rintro e w9 ⟨rfl,h9⟩
   have H9:=Lh h9
   clear h9 hPn
   go_wp2_with fail
   go_roundg (gk - 1)
   all_goals first
    | omega
    | exact ⟨i+1,by go_num,by omega,Lh (by
      have:=H9.out
      rw[List.take_add_one,Hk.out]
      simp only[Option.toList_some,Sx.kidsT_snoc]
      simpa using this)⟩
  ·obtain rfl:i=m:=by omega
   go_wp2_with fail
   refine (HP.out.put [.sign [125]] (ts:=[Sx.sgT 125]) rfl rfl rfl rfl (by simp) (by rw [Hm.out,List.take_length];simp at hlen ⊢;omega) (by simp)).mono ?_
   rintro e w9 ⟨rfl,h9⟩
   have H9:=Lh h9
   clear h9
   go_wp2_with fail
   go_end0
   exact ⟨rfl,by have:=H9.out.st;rw[Hm.out,List.take_length] at this;simpa [Sx.nameT,Sx.numT,Sx.sgT] using this,(Hbw.out.mono (by omega)).trans H9.out.bel,(KP.below Hbw.out).trans H9.out.kp⟩
theorem lRulePr (g N:Nat) (hN:N≤g):∀ (k:Nat) (r:Sx.Rule),Sx.ruleOk k r=true→RuleLow g N r
 | 0,r,h=>by cases r;simp[Sx.ruleOk] at h
 | k+1,.mk op co nm n d ks,h=>by
  obtain ⟨hlen,hks,hop⟩:=Sx.ruleOk_op h
  have ih:∀ q∈ks,RuleLow g N q:=fun q hq=>lRulePr g N hN k q (Sx.rulesOk_mem hks q hq)
  intro cs w he hr
  refine ⟨form_rule_low hr,fun l W hst hb hl=>?_⟩
  have heW:=he.keep (hb.mono hN)
  replace hr:=RuleAt.keep (low_keep hb) _ _ hr
  rw[RuleAt] at hr
  obtain ⟨A,c,rfl,hnm,hkl,hA⟩:=hr
  unfold intV strV
  rcases hop with ⟨h0 | h0,rfl,rfl,rfl,rfl⟩ | ⟨rfl,rfl,rfl,hn,rfl⟩ | ⟨rfl,rfl,rfl,rfl,rfl,h1⟩ | ⟨rfl,hrf,hn,rfl,rfl⟩ | ⟨rfl,hrf,hn,rfl,rfl⟩ | ⟨rfl,rfl,rfl,hn,rfl,rfl⟩ | ⟨rfl,rfl,rfl,hf,rfl⟩ | ⟨rfl,hrf,rfl,rfl,rfl⟩
  ·subst h0
   exact lRule1 g N hN ks ih _ rfl hlen A c W heW hA l hst hl
  ·subst h0
   exact lRule2 g N hN ks ih _ rfl hlen A c W heW hA l hst hl
  ·exact lRule3 g N hN n ks ih _ rfl hlen A c W heW hA l hst hl
  ·obtain ⟨q,rfl⟩:=Sx.unRules_one h1
   exact lRule4 g N hN q (ih q (by simp)) A c W heW hA l hst hl
  ·exact lRule5 g N hN co n nm A c W heW l hst hl
  ·exact lRule6 g N hN co n nm A c W heW l hst hl
  ·exact lRule7 g N hN n A c W heW l hst hl
  ·exact lRule8 g N hN n d A c W heW l hst hl
  ·exact lRule9 g N hN co nm A c W heW l hst hl
end Go.Proofs.YtjonaidancomgaaGreatDoor
