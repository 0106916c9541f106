/- Parts of the proof, joined into one text: SxPrS, SxLit. -/
import Derived.Test.YtjonaidancomgaaGreatDoorPSxPrC0
import Derived.Test.YtjonaidancomgaaGreatDoorPSxCata

namespace Go.Proofs.YtjonaidancomgaaGreatDoor
open Go.RowKit

def SrcPost (s:List UInt8) (x:Int) (w:World) (e:Ending) (w':World):Prop:=e = .returned (.tuple #[.string (Lx.bs s),.int .i64 x])∧Below w.heap.size w w'
theorem PrSt.new (w:World):PrSt w.heap.size [] (w.alloc (.cells #[.slice none 0 0] 110)):=
 ⟨.slice none 0 0,Blk.new _ _ _,by refine ⟨?_,.inl ⟨rfl,rfl⟩⟩;simp⟩
theorem PrSt.toks {g:Nat} {l:List Lx.Tok} {w:World} (h:PrSt g l w) (hl:l.length≤65536) (ht:∀ t∈l,t.text.length≤65536):∃ A c,w.cell? ⟨g,0,none⟩=some (.slice A l.length c)∧Toks w w.heap.size A l:=by
 obtain ⟨vT,hb,hown⟩:=h
 obtain ⟨A,c,rfl⟩:∃ A c,vT = .slice A l.length c:=by
  rcases hown.2 with ⟨rfl,h0⟩ | ⟨z,cap,cur,e,-⟩
  ·exact ⟨_,_,by rw [h0]⟩
  ·exact ⟨_,_,e⟩
 exact ⟨A,c,by have:=hb.cell 0;simpa using this,toks_own hown hl ht⟩
end Go.Proofs.YtjonaidancomgaaGreatDoor

namespace Go.Proofs.YtjonaidancomgaaGreatDoor
open Go.RowKit

theorem idx0_rule (A:Option Addr) (c:Nat) (v:Value) (w:World):Calls Tryz.prog 194 #[.slice A 0 c,v] w (IdxPost false w):=by
 go_enter Tryz.func194,Tryz.ntmps194
 go_wp2_with fail
 go_loopg [8] 0 (fun _ v wr=>v = .int .i64 0∧wr=w)
 case atStart=>exact ⟨rfl,rfl⟩
 case round=>
  obtain ⟨rfl,rfl⟩:=hrel
  go_wp2_with fail
  go_ret
  exact ⟨_,rfl,by decide,Below.refl _ _⟩
theorem has0_rule (A:Option Addr) (c:Nat) (v:Value) (w:World):Calls Tryz.prog 147 #[.slice A 0 c,v] w (BoolPost false w):=by
 go_enter Tryz.func147,Tryz.ntmps147
 go_wp2_with fail
 refine (idx0_rule _ _ _ _).mono ?_
 rintro e w1 ⟨z,rfl,hz,hb1⟩
 have Hz:=Lh hz;have Hb1:=Lh hb1
 clear hz hb1
 go_wp2_with fail
 go_ret
 exact ⟨ret_bool Hz.out,Hb1.out⟩
theorem idx0_pair (A:Option Addr) (c:Nat) (v:Value) (w:World):Calls Tryz.prog 205 #[.slice A 0 c,v] w (IdxPost false w):=by
 go_enter Tryz.func205,Tryz.ntmps205
 go_wp2_with fail
 go_loopg [8] 0 (fun _ v wr=>v = .int .i64 0∧wr=w)
 case atStart=>exact ⟨rfl,rfl⟩
 case round=>
  obtain ⟨rfl,rfl⟩:=hrel
  go_wp2_with fail
  go_ret
  exact ⟨_,rfl,by decide,Below.refl _ _⟩
theorem has0_pair (A:Option Addr) (c:Nat) (v:Value) (w:World):Calls Tryz.prog 176 #[.slice A 0 c,v] w (BoolPost false w):=by
 go_enter Tryz.func176,Tryz.ntmps176
 go_wp2_with fail
 refine (idx0_pair _ _ _ _).mono ?_
 rintro e w1 ⟨z,rfl,hz,hb1⟩
 have Hz:=Lh hz;have Hb1:=Lh hb1
 clear hz hb1
 go_wp2_with fail
 go_ret
 exact ⟨ret_bool Hz.out,Hb1.out⟩
theorem all0_pair (A:Option Addr) (c:Nat) (w:World):Calls Tryz.prog 123 #[.slice A 0 c,.func (.func 115) #[] #[]] w (BoolPost true w):=by
 have hbw:Below w.heap.size w (w.alloc (.cells #[.func (.func 115) #[] #[]] 172)):=(Below.refl _ _).alloc (Nat.le_refl _) _
 have Hbw:=Lh hbw
 clear hbw
 go_enter Tryz.func123,Tryz.ntmps123
 go_wp2_with fail
 refine (has0_pair _ _ _ _).mono ?_
 rintro e w1 ⟨rfl,hb1⟩
 have Hb1:=Lh (Hbw.out.trans (hb1.mono Hbw.out.size))
 clear hb1
 go_wp2_with fail
 go_ret
 exact ⟨ret_bool rfl,Hb1.out⟩
theorem idx0_prog (A:Option Addr) (c:Nat) (v:Value) (w:World):Calls Tryz.prog 206 #[.slice A 0 c,v] w (IdxPost false w):=by
 go_enter Tryz.func206,Tryz.ntmps206
 go_wp2_with fail
 go_loopg [8] 0 (fun _ v wr=>v = .int .i64 0∧wr=w)
 case atStart=>exact ⟨rfl,rfl⟩
 case round=>
  obtain ⟨rfl,rfl⟩:=hrel
  go_wp2_with fail
  go_ret
  exact ⟨_,rfl,by decide,Below.refl _ _⟩
theorem has0_prog (A:Option Addr) (c:Nat) (v:Value) (w:World):Calls Tryz.prog 178 #[.slice A 0 c,v] w (BoolPost false w):=by
 go_enter Tryz.func178,Tryz.ntmps178
 go_wp2_with fail
 refine (idx0_prog _ _ _ _).mono ?_
 rintro e w1 ⟨z,rfl,hz,hb1⟩
 have Hz:=Lh hz;have Hb1:=Lh hb1
 clear hz hb1
 go_wp2_with fail
 go_ret
 exact ⟨ret_bool Hz.out,Hb1.out⟩
theorem all0_prog (A:Option Addr) (c:Nat) (w:World):Calls Tryz.prog 124 #[.slice A 0 c,.func (.func 125) #[] #[]] w (BoolPost true w):=by
 have hbw:Below w.heap.size w (w.alloc (.cells #[.func (.func 125) #[] #[]] 180)):=(Below.refl _ _).alloc (Nat.le_refl _) _
 have Hbw:=Lh hbw
 clear hbw
 go_enter Tryz.func124,Tryz.ntmps124
 go_wp2_with fail
 refine (has0_prog _ _ _ _).mono ?_
 rintro e w1 ⟨rfl,hb1⟩
 have Hb1:=Lh (Hbw.out.trans (hb1.mono Hbw.out.size))
 clear hb1
 go_wp2_with fail
 go_ret
 exact ⟨ret_bool rfl,Hb1.out⟩
theorem idx0_cls (A:Option Addr) (c:Nat) (v:Value) (w:World):Calls Tryz.prog 209 #[.slice A 0 c,v] w (IdxPost false w):=by
 go_enter Tryz.func209,Tryz.ntmps209
 go_wp2_with fail
 go_loopg [8] 0 (fun _ v wr=>v = .int .i64 0∧wr=w)
 case atStart=>exact ⟨rfl,rfl⟩
 case round=>
  obtain ⟨rfl,rfl⟩:=hrel
  go_wp2_with fail
  go_ret
  exact ⟨_,rfl,by decide,Below.refl _ _⟩
theorem has0_cls (A:Option Addr) (c:Nat) (v:Value) (w:World):Calls Tryz.prog 182 #[.slice A 0 c,v] w (BoolPost false w):=by
 go_enter Tryz.func182,Tryz.ntmps182
 go_wp2_with fail
 refine (idx0_cls _ _ _ _).mono ?_
 rintro e w1 ⟨z,rfl,hz,hb1⟩
 have Hz:=Lh hz;have Hb1:=Lh hb1
 clear hz hb1
 go_wp2_with fail
 go_ret
 exact ⟨ret_bool Hz.out,Hb1.out⟩
theorem all0_cls (A:Option Addr) (c:Nat) (w:World):Calls Tryz.prog 126 #[.slice A 0 c,.func (.func 127) #[] #[]] w (BoolPost true w):=by
 have hbw:Below w.heap.size w (w.alloc (.cells #[.func (.func 127) #[] #[]] 182)):=(Below.refl _ _).alloc (Nat.le_refl _) _
 have Hbw:=Lh hbw
 clear hbw
 go_enter Tryz.func126,Tryz.ntmps126
 go_wp2_with fail
 refine (has0_cls _ _ _ _).mono ?_
 rintro e w1 ⟨rfl,hb1⟩
 have Hb1:=Lh (Hbw.out.trans (hb1.mono Hbw.out.size))
 clear hb1
 go_wp2_with fail
 go_ret
 exact ⟨ret_bool rfl,Hb1.out⟩
theorem idx0_fee (A:Option Addr) (c:Nat) (v:Value) (w:World):Calls Tryz.prog 210 #[.slice A 0 c,v] w (IdxPost false w):=by
 go_enter Tryz.func210,Tryz.ntmps210
 go_wp2_with fail
 go_loopg [8] 0 (fun _ v wr=>v = .int .i64 0∧wr=w)
 case atStart=>exact ⟨rfl,rfl⟩
 case round=>
  obtain ⟨rfl,rfl⟩:=hrel
  go_wp2_with fail
  go_ret
  exact ⟨_,rfl,by decide,Below.refl _ _⟩
theorem has0_fee (A:Option Addr) (c:Nat) (v:Value) (w:World):Calls Tryz.prog 184 #[.slice A 0 c,v] w (BoolPost false w):=by
 go_enter Tryz.func184,Tryz.ntmps184
 go_wp2_with fail
 refine (idx0_fee _ _ _ _).mono ?_
 rintro e w1 ⟨z,rfl,hz,hb1⟩
 have Hz:=Lh hz;have Hb1:=Lh hb1
 clear hz hb1
 go_wp2_with fail
 go_ret
 exact ⟨ret_bool Hz.out,Hb1.out⟩
theorem all0_fee (A:Option Addr) (c:Nat) (w:World):Calls Tryz.prog 128 #[.slice A 0 c,.func (.func 117) #[] #[]] w (BoolPost true w):=by
 have hbw:Below w.heap.size w (w.alloc (.cells #[.func (.func 117) #[] #[]] 174)):=(Below.refl _ _).alloc (Nat.le_refl _) _
 have Hbw:=Lh hbw
 clear hbw
 go_enter Tryz.func128,Tryz.ntmps128
 go_wp2_with fail
 refine (has0_fee _ _ _ _).mono ?_
 rintro e w1 ⟨rfl,hb1⟩
 have Hb1:=Lh (Hbw.out.trans (hb1.mono Hbw.out.size))
 clear hb1
 go_wp2_with fail
 go_ret
 exact ⟨ret_bool rfl,Hb1.out⟩
theorem idx0_clause (A:Option Addr) (c:Nat) (v:Value) (w:World):Calls Tryz.prog 211 #[.slice A 0 c,v] w (IdxPost false w):=by
 go_enter Tryz.func211,Tryz.ntmps211
 go_wp2_with fail
 go_loopg [8] 0 (fun _ v wr=>v = .int .i64 0∧wr=w)
 case atStart=>exact ⟨rfl,rfl⟩
 case round=>
  obtain ⟨rfl,rfl⟩:=hrel
  go_wp2_with fail
  go_ret
  exact ⟨_,rfl,by decide,Below.refl _ _⟩
theorem has0_clause (A:Option Addr) (c:Nat) (v:Value) (w:World):Calls Tryz.prog 186 #[.slice A 0 c,v] w (BoolPost false w):=by
 go_enter Tryz.func186,Tryz.ntmps186
 go_wp2_with fail
 refine (idx0_clause _ _ _ _).mono ?_
 rintro e w1 ⟨z,rfl,hz,hb1⟩
 have Hz:=Lh hz;have Hb1:=Lh hb1
 clear hz hb1
 go_wp2_with fail
 go_ret
 exact ⟨ret_bool Hz.out,Hb1.out⟩
theorem all0_clause (A:Option Addr) (c:Nat) (w:World):Calls Tryz.prog 129 #[.slice A 0 c,.func (.func 120) #[] #[]] w (BoolPost true w):=by
 have hbw:Below w.heap.size w (w.alloc (.cells #[.func (.func 120) #[] #[]] 175)):=(Below.refl _ _).alloc (Nat.le_refl _) _
 have Hbw:=Lh hbw
 clear hbw
 go_enter Tryz.func129,Tryz.ntmps129
 go_wp2_with fail
 refine (has0_clause _ _ _ _).mono ?_
 rintro e w1 ⟨rfl,hb1⟩
 have Hb1:=Lh (Hbw.out.trans (hb1.mono Hbw.out.size))
 clear hb1
 go_wp2_with fail
 go_ret
 exact ⟨ret_bool rfl,Hb1.out⟩
def Sx.small (r:Sx.Rule):Prop:=r = .mk 1 0 [] 0 0 []∨r = .mk 2 0 [] 0 0 []∨r = .mk 5 0 [80,82,69] 5 0 []
theorem sRokL (r:Sx.Rule) (hs:Sx.small r) (w:World) (cs:List Value) (h:RuleAt w (Old w) r cs):Calls Tryz.prog 57 #[.agg cs.toArray,.int .i64 1] w (BoolPost true w):=by
 have fin:∀ b:Bool,b=true→∀ {e:Ending} {w':World},BoolPost b w e w'→BoolPost true w e w':=fun b hb e w' h=>by rw [←hb];exact h
 rcases hs with rfl | rfl | rfl
 ·rw[RuleAt] at h
  obtain ⟨A,c,rfl,hn,-,-⟩:=h
  exact (rok1 1 (by decide) (fun _=>true) 0 0 0 [] [] A 0 c rfl (by simp) w (fun W _ _=>has0_rule _ _ _ _)).mono fun e w' he=>fin _ (by decide) he
 ·rw[RuleAt] at h
  obtain ⟨A,c,rfl,hn,-,-⟩:=h
  exact (rok2 1 (by decide) (fun _=>true) 0 0 0 [] [] A 0 c rfl (by simp) w (fun W _ _=>has0_rule _ _ _ _)).mono fun e w' he=>fin _ (by decide) he
 ·rw[RuleAt] at h
  obtain ⟨A,c,rfl,hn,-,-⟩:=h
  exact (rok5 1 (by decide) (fun _=>true) 0 5 0 [80,82,69] [] A 0 c rfl (by simp) w (fun W _ _=>has0_rule _ _ _ _)).mono fun e w' he=>fin _ (by decide) he
theorem sRokZ (w:World) (cs:List Value) (h:RuleAt w (Old w) Sx.Rule.zero cs):Calls Tryz.prog 57 #[.agg cs.toArray,.int .i64 1] w (BoolPost false w):=by
 unfold Sx.Rule.zero at h
 rw[RuleAt] at h
 obtain ⟨A,c,rfl,hn,-,-⟩:=h
 exact rokNo 1 (by decide) (fun _=>true) 0 0 0 0 [] [] A 0 c rfl (by simp) w (by decide) (by decide) (by decide) (by decide) (by decide) (by decide) (by decide) (by decide) (by decide) (fun W _ _=>has0_rule _ _ _ _)
def Sx.smallC (x:Sx.Course):Prop:=Sx.small x.need∧x.need.op=5∧x.bar = .mk 2 0 [] 0 0 []∧x.rep=0∧Sx.courseOk x=true
theorem okCourseL (x:Sx.Course) (hx:Sx.smallC x) (cs:List Value) (w:World) (h:CourseAt w (Old w) x cs):Calls Tryz.prog 122 #[.agg cs.toArray] w (BoolPost true w):=by
 obtain ⟨cn,cb,rfl,hn,h1,h2⟩:=h
 have k1:=fun W (hW:Below w.heap.size w W)=>sRokL x.need hx.1 W cn (old_rule hW h1)
 have k2:=fun W (hW:Below w.heap.size w W)=>sRokL x.bar (.inr (.inl hx.2.2.1)) W cb (old_rule hW h2)
 have hk:=hx.2.2.2.2
 unfold Sx.courseOk at hk
 simp only[Bool.and_eq_true] at hk
 obtain ⟨i0,i1,s2,i3,i4,A5,n5,c5,rfl⟩:=form_rule h1
 obtain ⟨j0,j1,t2,j3,j4,B5,m5,d5,rfl⟩:=form_rule h2
 refine (okCourse0 x.name x.number x.credits x.rep i0 i1 s2 i3 i4 A5 n5 c5 j0 j1 t2 j3 j4 B5 m5 d5 _ _ hn w k1 k2).mono fun e w' he=>?_
 rw[hk.1.1.1.1.1,hk.1.1.1.1.2,hk.1.1.1.2,hk.1.1.2] at he
 exact he
theorem okCatL (xs:List Sx.Course) (hxs:∀ x∈xs,Sx.smallC x) (A0:Option Addr) (n c0:Nat) (hn:n=xs.length) (A1:Option Addr) (c1:Nat) (A2:Option Addr) (c2:Nat) (A3:Option Addr) (c3:Nat) (A4:Option Addr) (c4:Nat) (A5:Option Addr) (c5:Nat) (A6:Option Addr) (c6:Nat) (w:World) (h:Row w (Old w) A0 16 (CourseAt w (Old w)) xs) :
  Calls Tryz.prog 48 #[.agg #[.slice A0 n c0,.slice A1 0 c1,.slice A2 0 c2,.slice A3 0 c3,.slice A4 0 c4,.slice A5 0 c5,.slice A6 0 c6]] w (BoolPost true w):=by
 subst hn
 refine okCat0 A0 _ c0 true A1 _ c1 true A2 _ c2 true A3 _ c3 true A4 _ c4 true A5 _ c5 true A6 _ c6 true w ?_ (fun W _=>all0_pair _ _ _) (fun W _=>all0_prog _ _ _) (fun W _=>all0_cls _ _ _) (fun W _=>all0_fee _ _ _) (fun W _=>all0_cls _ _ _) (fun W _=>all0_clause _ _ _)
 intro W hW
 have:=all_course A0 c0 xs (fun _=>true) W (h.keep (P':=CourseAt W (Old W)) (old_keep hW) fun _ _ _ h=>old_course hW h) (fun x hx cs W' _ h=>okCourseL x (hxs x hx) cs W' h)
 rwa [show (xs.all fun _=>true)=true by simp] at this
theorem lRuleL (g N:Nat) (hN:N≤g) (r:Sx.Rule) (hr:r = .mk 1 0 [] 0 0 []∨r = .mk 5 0 [80,82,69] 5 0 []):RuleLow g N r:=by
 intro cs w he hr0
 refine ⟨form_rule_low hr0,fun l W hst hb hl=>?_⟩
 have heW:=he.keep (hb.mono hN)
 replace hr0:=RuleAt.keep (low_keep hb) _ _ hr0
 rcases hr with rfl | rfl
 ·rw[RuleAt] at hr0
  obtain ⟨A,c,rfl,hnm,hkl,hA⟩:=hr0
  unfold intV strV
  exact lRule1 g N hN [] (by simp) _ rfl (by simp) A c W heW hA l hst hl
 ·rw[RuleAt] at hr0
  obtain ⟨A,c,rfl,hnm,hkl,hA⟩:=hr0
  unfold intV strV
  exact lRule5 g N hN 0 5 [80,82,69] A c W heW l hst hl
theorem lCourseL (g N:Nat) (hN:N≤g) (x:Sx.Course) (hx:Sx.smallC x) (cs:List Value) (w:World) (he:EnvS N w) (hat:CourseAt w (fun b=>b < g) x cs) (l:List Lx.Tok) (W:World) (hst:PrSt g l W) (hb:Below g w W) (hl:l.length+(Sx.courseT x).length≤60000) :
  Calls Tryz.prog 49 #[.pointer (some ⟨g,0,none⟩),.agg cs.toArray] W (TPost g l (Sx.courseT x) W):=by
 have heW:=he.keep (hb.mono hN)
 replace hat:=CourseAt.keep (low_keep hb) hat
 obtain ⟨nm,no,cr,rp,nd,br⟩:=x
 obtain ⟨cn,cb,rfl,hn,h1,h2⟩:=hat
 obtain ⟨hs,ho,rfl,rfl,-⟩:=hx
 have hnd:nd = .mk 5 0 [80,82,69] 5 0 []:=by
  rcases hs with rfl | rfl | rfl
  ·simp[Sx.Rule.op] at ho
  ·simp[Sx.Rule.op] at ho
  ·rfl
 subst hnd
 have sa:=lRuleL g N hN _ (.inr rfl) cn W heW h1
 rw[RuleAt] at h1 h2
 obtain ⟨A1,e1,rfl,-,-,-⟩:=h1
 obtain ⟨A2,e2,rfl,-,-,-⟩:=h2
 exact lCourse010 g N hN nm no cr _ _ _ _ _ _ _ _ _ (by decide) _ _ W heW sa l hst _ (by simp [Sx.courseT,Sx.Rule.op,Sx.Rule.kids]) hl
set_option maxRecDepth 20000 in
set_option maxHeartbeats 4000000 in
theorem sPrintRuleZ (cs:List Value) (w:World) (h:RuleAt w (Old w) Sx.Rule.zero cs):Calls Tryz.prog 22 #[.agg cs.toArray] w (SrcPost [] 100 w):=by
 obtain ⟨i0,i1,s2,i3,i4,A5,n5,c5,rfl⟩:=form_rule h
 obtain ⟨W,hW⟩:∃ W,W=w.alloc (.cells #[.int .i64 i0,.int .i64 i1,.string s2,.int .i64 i3,.int .i64 i4,.slice A5 n5 c5] 38):=⟨_,rfl⟩
 have hbw:Below w.heap.size w W:=by rw [hW];exact (Below.refl _ _).alloc (Nat.le_refl _) _
 have K:=Lh (sRokZ W _ (old_rule hbw h))
 have HB:=Lh hbw
 clear h hbw
 go_enter Tryz.func22,Tryz.ntmps22
 go_wp2_with fail
 rw[←hW]
 refine K.out.mono ?_
 rintro e w1 ⟨rfl,hb⟩
 have HB1:=Lh (HB.out.trans (hb.mono HB.out.size))
 clear hb
 go_wp2_with fail
 go_ret2
 exact ⟨rfl,HB1.out⟩
set_option maxRecDepth 20000 in
set_option maxHeartbeats 4000000 in
theorem sPrintRuleL (N:Nat) (r:Sx.Rule) (cs:List Value) (s:List UInt8) (w:World) (he:EnvS N w) (h:RuleAt w (Old w) r cs) (hk:r = .mk 1 0 [] 0 0 []) (hl:(Sx.ruleT r).length≤60000) (ht:Lx.text (Sx.ruleT r)=some s) (hx:∀ t∈Sx.ruleT r,t.text.length≤65536) :
  Calls Tryz.prog 22 #[.agg cs.toArray] w (SrcPost s 0 w):=by
 obtain ⟨i0,i1,s2,i3,i4,A5,n5,c5,rfl⟩:=form_rule h
 obtain ⟨W,hW⟩:∃ W,W=w.alloc (.cells #[.int .i64 i0,.int .i64 i1,.string s2,.int .i64 i3,.int .i64 i4,.slice A5 n5 c5] 38):=⟨_,rfl⟩
 have hbw:Below w.heap.size w W:=by rw [hW];exact (Below.refl _ _).alloc (Nat.le_refl _) _
 have hbx:Blk W w.heap.size 38 #[.int .i64 i0,.int .i64 i1,.string s2,.int .i64 i3,.int .i64 i4,.slice A5 n5 c5]:=by rw [hW];exact Blk.new _ _ _
 have K:=Lh (sRokL r (.inl hk) W _ (old_rule hbw h))
 have HB:=Lh hbw;have HBx:=Lh hbx;have HE:=Lh he;have H:=Lh h;have Hk:=Lh hk;have Hl:=Lh hl;have Ht:=Lh ht;have Hx:=Lh hx
 have hN:=he.size
 clear h hk hbw hbx he hl ht hx
 go_enter Tryz.func22,Tryz.ntmps22
 go_wp2_with fail
 rw[←hW]
 refine K.out.mono ?_
 rintro e w1 ⟨rfl,hb⟩
 have HB1:=Lh (HB.out.trans (hb.mono HB.out.size))
 have y:=HBx.out.below hb HBx.out.lt
 have x0:=y.cell 0;have x1:=y.cell 1;have x2:=y.cell 2;have x3:=y.cell 3;have x4:=y.cell 4;have x5:=y.cell 5
 simp at x0 x1 x2 x3 x4 x5
 have z1:=y.lt
 clear hb y
 go_wp2_with fail
 obtain ⟨W2,hW2⟩:∃ W2,W2=w1.alloc (.cells #[.slice none 0 0] 110):=⟨_,rfl⟩
 have hb2:Below w1.heap.size w1 W2:=by rw [hW2];exact (Below.refl _ _).alloc (Nat.le_refl _) _
 have hb3:=HB1.out.trans (hb2.mono HB1.out.size)
 have hst:PrSt w1.heap.size [] W2:=by rw [hW2];exact PrSt.new w1
 have hsay:=lRuleL w1.heap.size N (Nat.le_trans hN HB1.out.size) r (.inl Hk.out) _ W2 (HE.out.next hb3) (RuleAt.keep (fun b hb=>⟨Nat.lt_of_lt_of_le hb HB1.out.size,fun i=>hb3.cell (p:=⟨b,i,none⟩) hb⟩) _ _ H.out)
 rw[←hW2]
 refine (hsay.2 [] W2 hst (Below.refl _ _) (by simpa using Hl.out)).mono ?_
 rintro e w3 ⟨rfl,h3,h4,h5⟩
 rw[List.nil_append] at h3
 obtain ⟨A,c,g0,hT⟩:=h3.toks (by have:=Hl.out;omega) Hx.out
 have hlt3:=h3.lt
 have hb4:Below w.heap.size w w3:=hb3.trans (h4.mono HB1.out.size)
 have hfin:=lTextOk A c (Sx.ruleT r) s w3 (HE.out.next hb4).env hT (by have:=Hl.out;omega) Ht.out
 have Hfin:=Lh hfin;have HB4:=Lh hb4
 clear hfin hb4 hT h3 h4 h5 hsay hst hb3 hb2
 go_wp2_with fail
 refine Hfin.out.mono ?_
 rintro e w5 ⟨rfl,hb5,-⟩
 have HB5:=Lh (HB4.out.trans (hb5.mono HB4.out.size))
 clear hb5
 go_wp2_with fail
 go_ret2
 exact ⟨rfl,HB5.out⟩
theorem form_course16 {w:World} {S:Nat→Prop} {x:Sx.Course} {cs:List Value} (h:CourseAt w S x cs):∃ i0 i1 i2 i3 i4 i5 s6 i7 i8 A9 n9 c9 j0 j1 t2 j3 j4 B5 m5 d5,cs = [.string i0,.int .i64 i1,.int .i64 i2,.int .i64 i3,.int .i64 i4,.int .i64 i5,.string s6,.int .i64 i7,.int .i64 i8,.slice A9 n9 c9,.int .i64 j0,.int .i64 j1,.string t2,.int .i64 j3,.int .i64 j4,.slice B5 m5 d5]:=form_course h
theorem Sx.flat_le {x:Sx.Course} : ∀ {xs:List Sx.Course} {i:Nat},xs[i]?=some x→((xs.take i).flatMap Sx.courseT).length+(Sx.courseT x).length≤(xs.flatMap Sx.courseT).length
 | [],i,h=>by simp at h
 | y::xs,0,h=>by simp at h;subst h;simp
 | y::xs,i+1,h=>by have:=Sx.flat_le (xs:=xs) (i:=i) (by simpa using h);simp at *;omega
set_option maxRecDepth 20000 in
set_option maxHeartbeats 8000000 in
theorem sPrintL (N:Nat) (xs:List Sx.Course) (A:Option Addr) (n c:Nat) (hn:n=xs.length) (A1:Option Addr) (c1:Nat) (A2:Option Addr) (c2:Nat) (A3:Option Addr) (c3:Nat) (A4:Option Addr) (c4:Nat) (A5:Option Addr) (c5:Nat) (A6:Option Addr) (c6:Nat) (s:List UInt8) (w:World) (he:EnvS N w) (hr:Row w (Old w) A 16 (CourseAt w (Old w)) xs) (hk:∀ x∈xs,Sx.smallC x)
  (hl:(xs.flatMap Sx.courseT).length≤60000) (ht:Lx.text (xs.flatMap Sx.courseT)=some s) (hx:∀ t∈xs.flatMap Sx.courseT,t.text.length≤65536) :
  Calls Tryz.prog 20 #[.agg #[.slice A n c,.slice A1 0 c1,.slice A2 0 c2,.slice A3 0 c3,.slice A4 0 c4,.slice A5 0 c5,.slice A6 0 c6]] w (SrcPost s 0 w):=by
 obtain ⟨W,hW⟩:∃ W,W=w.alloc (.cells #[.slice A n c,.slice A1 0 c1,.slice A2 0 c2,.slice A3 0 c3,.slice A4 0 c4,.slice A5 0 c5,.slice A6 0 c6] 30):=⟨_,rfl⟩
 have hbw:Below w.heap.size w W:=by rw [hW];exact (Below.refl _ _).alloc (Nat.le_refl _) _
 have hbx:Blk W w.heap.size 30 #[.slice A n c,.slice A1 0 c1,.slice A2 0 c2,.slice A3 0 c3,.slice A4 0 c4,.slice A5 0 c5,.slice A6 0 c6]:=by rw [hW];exact Blk.new _ _ _
 have K:=Lh (okCatL xs hk A n c hn A1 c1 A2 c2 A3 c3 A4 c4 A5 c5 A6 c6 W (hr.keep (P':=CourseAt W (Old W)) (old_keep hbw) fun _ _ _ h=>old_course hbw h))
 have hz:=hr.len
 rw[←hn] at hz
 have HB:=Lh hbw;have HBx:=Lh hbx;have HE:=Lh he;have Hr:=Lh hr;have Hok:=Lh hk;have Hl:=Lh hl;have Ht:=Lh ht;have Hx:=Lh hx;have Hn:=Lh hn
 have hN:=he.size
 clear hr hk hbw hbx he hl ht hx hn
 go_enter Tryz.func20,Tryz.ntmps20
 go_wp2_with fail
 rw[←hW]
 refine K.out.mono ?_
 rintro e w1 ⟨rfl,hb⟩
 have HB1:=Lh (HB.out.trans (hb.mono HB.out.size))
 have y:=HBx.out.below hb HBx.out.lt
 have Hy:=Lh y
 have x0:=y.cell 0;have x1:=y.cell 1;have x2:=y.cell 2;have x3:=y.cell 3;have x4:=y.cell 4;have x5:=y.cell 5;have x6:=y.cell 6
 simp at x0 x1 x2 x3 x4 x5 x6
 have z1:=y.lt
 clear hb y
 go_wp2_with fail
 obtain ⟨W2,hW2⟩:∃ W2,W2=w1.alloc (.cells #[.slice none 0 0] 110):=⟨_,rfl⟩
 have hb2:Below w1.heap.size w1 W2:=by rw [hW2];exact (Below.refl _ _).alloc (Nat.le_refl _) _
 have hb3:=HB1.out.trans (hb2.mono HB1.out.size)
 have hst:PrSt w1.heap.size [] W2:=by rw [hW2];exact PrSt.new w1
 have hy2:=Hy.out.below hb2 z1
 have hN1:N≤w1.heap.size:=Nat.le_trans hN HB1.out.size
 have hsay:∀ x∈xs,∀ cs,CourseAt W2 (fun b=>b < w1.heap.size) x cs→∀ (l:List Lx.Tok) (W:World),PI w1.heap.size l W2 W→l.length+(Sx.courseT x).length≤60000→Calls Tryz.prog 49 #[.pointer (some ⟨w1.heap.size,0,none⟩),.agg cs.toArray] W (PIPost w1.heap.size (l++Sx.courseT x) W2):=fun x hxm cs hat l W hW hl=>
  (lCourseL w1.heap.size N hN1 x (Hok.out x hxm) cs W2 (HE.out.next hb3) hat l W hW.st hW.bel hl).mono fun e w' he=>hW.post he
 have hrow:=Hr.out.keep (S':=fun b=>b < w1.heap.size) (P':=CourseAt W2 (fun b=>b < w1.heap.size)) (fun b hb=>⟨Nat.lt_of_lt_of_le hb HB1.out.size,fun i=>hb3.cell (p:=⟨b,i,none⟩) hb⟩) (fun _ _ _ h=>CourseAt.keep (fun b hb=>⟨Nat.lt_of_lt_of_le hb HB1.out.size,fun i=>hb3.cell (p:=⟨b,i,none⟩) hb⟩) h)
 have Hsay:=Lh hsay;have Hrow:=Lh hrow;have HB3:=Lh hb3;have Hy2:=Lh hy2
 have HP0:Hid (PI w1.heap.size ((xs.take 0).flatMap Sx.courseT) W2 W2):=Lh (by simpa using PI.start hst)
 rw[←hW2]
 clear hsay hrow hb3 hb2 hst hy2
 go_loopg [25] n (fun gk v25 wr=>∃ i:Nat,v25 = .int .i64 i∧i+gk=n∧Hid (PI w1.heap.size ((xs.take i).flatMap Sx.courseT) W2 wr))
 case atStart=>exact ⟨0,rfl,by omega,HP0⟩
 case round=>
  obtain ⟨i,rfl,hi,HP⟩:=hrel
  have hgr:=HP.out.st.lt
  have yb:=HP.out.blk Hy2.out (by decide) (by decide)
  have x0:=yb.cell 0;have x1:=yb.cell 1;have x2:=yb.cell 2;have x3:=yb.cell 3;have x4:=yb.cell 4;have x5:=yb.cell 5;have x6:=yb.cell 6
  simp at x0 x1 x2 x3 x4 x5 x6
  have z2:=yb.lt
  clear yb
  by_cases hlt:i < n
  ·obtain ⟨x,hxi⟩:∃ x,xs[i]?=some x:=⟨_,List.getElem?_eq_getElem (by have:=Hn.out;omega)⟩
   obtain ⟨bk,ok,cs,rfl,hS,hP,hck⟩:=Hrow.out.at_ i x hxi
   have hcall:=Hsay.out x (List.mem_of_getElem? hxi) cs hP
   have hbk:bk < wr.heap.size:=by omega
   have hbk2:bk < w1.heap.size:=hS
   obtain ⟨i0,i1,i2,i3,i4,i5,s6,i7,i8,A9,n9,c9,j0,j1,t2,j3,j4,B5,m5,d5,rfl⟩:=form_course16 hP
   have k0:=(HP.out.bel.cell (p:=⟨bk,_,none⟩) hbk2).trans (hck 0 _ rfl)
   have k1:=(HP.out.bel.cell (p:=⟨bk,_,none⟩) hbk2).trans (hck 1 _ rfl)
   have k2:=(HP.out.bel.cell (p:=⟨bk,_,none⟩) hbk2).trans (hck 2 _ rfl)
   have k3:=(HP.out.bel.cell (p:=⟨bk,_,none⟩) hbk2).trans (hck 3 _ rfl)
   have k4:=(HP.out.bel.cell (p:=⟨bk,_,none⟩) hbk2).trans (hck 4 _ rfl)
   have k5:=(HP.out.bel.cell (p:=⟨bk,_,none⟩) hbk2).trans (hck 5 _ rfl)
   have k6:=(HP.out.bel.cell (p:=⟨bk,_,none⟩) hbk2).trans (hck 6 _ rfl)
   have k7:=(HP.out.bel.cell (p:=⟨bk,_,none⟩) hbk2).trans (hck 7 _ rfl)
   have k8:=(HP.out.bel.cell (p:=⟨bk,_,none⟩) hbk2).trans (hck 8 _ rfl)
   have k9:=(HP.out.bel.cell (p:=⟨bk,_,none⟩) hbk2).trans (hck 9 _ rfl)
   have k10:=(HP.out.bel.cell (p:=⟨bk,_,none⟩) hbk2).trans (hck 10 _ rfl)
   have k11:=(HP.out.bel.cell (p:=⟨bk,_,none⟩) hbk2).trans (hck 11 _ rfl)
   have k12:=(HP.out.bel.cell (p:=⟨bk,_,none⟩) hbk2).trans (hck 12 _ rfl)
   have k13:=(HP.out.bel.cell (p:=⟨bk,_,none⟩) hbk2).trans (hck 13 _ rfl)
   have k14:=(HP.out.bel.cell (p:=⟨bk,_,none⟩) hbk2).trans (hck 14 _ rfl)
   have k15:=(HP.out.bel.cell (p:=⟨bk,_,none⟩) hbk2).trans (hck 15 _ rfl)
   simp only[Nat.add_zero] at k0 k1 k2 k3 k4 k5 k6 k7 k8 k9 k10 k11 k12 k13 k14 k15
   have hlen:=Sx.flat_le hxi
   obtain ⟨W3,hW3⟩:∃ W3,W3=wr.alloc (.cells #[.string i0,.int .i64 i1,.int .i64 i2,.int .i64 i3,.int .i64 i4,.int .i64 i5,.string s6,.int .i64 i7,.int .i64 i8,.slice A9 n9 c9,.int .i64 j0,.int .i64 j1,.string t2,.int .i64 j3,.int .i64 j4,.slice B5 m5 d5] 58):=⟨_,rfl⟩
   have hPn:PI w1.heap.size ((xs.take i).flatMap Sx.courseT) W2 W3:=by rw [hW3];exact HP.out.next ((Below.refl _ _).alloc (Nat.le_refl _) _)
   have Hcall:=Lh (hcall _ W3 hPn (by have:=Hl.out;omega))
   have Hxi:=Lh hxi
   clear hcall hP hck hxi hlen hPn
   go_wp2_with fail
   rw[←hW3]
   refine Hcall.out.mono ?_
   rintro e w5 ⟨rfl,h5⟩
   have H5:=Lh h5
   clear h5 hW3 k0 k1 k2 k3 k4 k5 k6 k7 k8 k9 k10 k11 k12 k13 k14 k15
   go_wp2_with fail
   go_roundg (gk - 1)
   all_goals first
    | omega
    | exact ⟨i+1,by go_num,by omega,Lh (by
      have:=H5.out
      rw[List.take_add_one,Hxi.out]
      simpa using this)⟩
  ·obtain rfl:i=n:=by omega
   have htake:(xs.take i).flatMap Sx.courseT=xs.flatMap Sx.courseT:=by rw [Hn.out,List.take_length]
   rw[htake] at HP
   obtain ⟨At,ct,g0,hT⟩:=HP.out.st.toks (by have:=Hl.out;omega) Hx.out
   have hb4:Below w.heap.size w wr:=HB3.out.trans (HP.out.bel.mono HB1.out.size)
   have Hfin:=Lh (lTextOk At ct _ s wr (HE.out.next hb4).env hT (by have:=Hl.out;omega) Ht.out)
   have HB4:=Lh hb4
   clear htake hT hb4 hi hlt
   obtain ⟨lt,hlt⟩:∃ lt,lt=(xs.flatMap Sx.courseT).length:=⟨_,rfl⟩
   rw[←hlt] at g0 Hfin
   clear hlt
   go_wp2_with fail
   go_loopg [35] 0 (fun _ v wq=>v = .int .i64 0∧wq=wr)
   case atStart=>exact ⟨rfl,rfl⟩
   case round=>
    obtain ⟨rfl,rfl⟩:=hrel
    go_wp2_with fail
    go_loopg [62] 0 (fun _ v wq=>v = .int .i64 0∧wq=wr)
    case atStart=>exact ⟨rfl,rfl⟩
    case round=>
     obtain ⟨rfl,rfl⟩:=hrel
     go_wp2_with fail
     go_loopg [72] 0 (fun _ v wq=>v = .int .i64 0∧wq=wr)
     case atStart=>exact ⟨rfl,rfl⟩
     case round=>
      obtain ⟨rfl,rfl⟩:=hrel
      go_wp2_with fail
      go_loopg [94] 0 (fun _ v wq=>v = .int .i64 0∧wq=wr)
      case atStart=>exact ⟨rfl,rfl⟩
      case round=>
       obtain ⟨rfl,rfl⟩:=hrel
       go_wp2_with fail
       go_loopg [112] 0 (fun _ v wq=>v = .int .i64 0∧wq=wr)
       case atStart=>exact ⟨rfl,rfl⟩
       case round=>
        obtain ⟨rfl,rfl⟩:=hrel
        go_wp2_with fail
        go_loopg [134] 0 (fun _ v wq=>v = .int .i64 0∧wq=wr)
        case atStart=>exact ⟨rfl,rfl⟩
        case round=>
         obtain ⟨rfl,rfl⟩:=hrel
         go_wp2_with fail
         refine Hfin.out.mono ?_
         rintro e w6 ⟨rfl,hb6,-⟩
         have HB6:=Lh (HB4.out.trans (hb6.mono HB4.out.size))
         clear hb6
         go_wp2_with fail
         go_ret2
         exact ⟨rfl,HB6.out⟩
end Go.Proofs.YtjonaidancomgaaGreatDoor
