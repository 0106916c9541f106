/- Parts of the proof, joined into one text: SxSanL, RpBox, RpPar, RpParB. -/
import Derived.Test.YtjonaidancomgaaGreatDoorPSxParseR
import Derived.Test.YtjonaidancomgaaGreatDoorPSxSanP
import Derived.Test.YtjonaidancomgaaGreatDoorPSxPrS
import Derived.Test.YtjonaidancomgaaGreatDoorPSxEqf
import Derived.Deep.Cut
import Derived.Test.YtjonaidancomgaaGreatDoorPShelf
import Derived.Test.YtjonaidancomgaaGreatDoorPLxE
import Derived.Test.YtjonaidancomgaaGreatDoorPSxEq
import Derived.Test.YtjonaidancomgaaGreatDoorPLxI
import Derived.Test.YtjonaidancomgaaGreatDoorPSxEqs

namespace Go.Proofs.YtjonaidancomgaaGreatDoor
open Go.RowKit

def TruePost (w:World) (e:Ending) (w':World):Prop:=e = .returned (.bool true)∧Below w.heap.size w w'
theorem sParse_ok (s:ByteArray) (N:Nat) (c:Sx.Cat) (hq:Sx.parse s.data.toList = .ok c) (w:World) (he:EnvS N w) (hs:s.size≤100000) :
  Calls Tryz.prog 12 #[.string s] w fun e w'=>∃ cs:List Value,e = .returned (.tuple #[.agg cs.toArray,.int .i64 0,.int .i64 0])∧CatAt w' (Old w') c cs∧Below w.heap.size w w':=
 (sParseT s N w he hs).mono fun e w' ⟨hb,h⟩=>by
  unfold Sx.parse at hq
  rw[hq] at h
  obtain ⟨v,h1,cs,h2,h3⟩:=h
  exact ⟨cs,by rw [←h2];exact h1,CatAt.keep (fun b hb=>⟨hb.2,fun _=>rfl⟩) h3,hb⟩
theorem sParse_bad (s:ByteArray) (N:Nat) (p x:Int) (hq:Sx.parse s.data.toList = .bad p x) (w:World) (he:EnvS N w) (hs:s.size≤100000) :
  Calls Tryz.prog 12 #[.string s] w fun e w'=>e = .returned (.tuple #[.agg #[.slice none 0 0,.slice none 0 0,.slice none 0 0,.slice none 0 0,.slice none 0 0,.slice none 0 0,.slice none 0 0],.int .i64 p,.int .i64 x])∧Below w.heap.size w w':=
 (sParseT s N w he hs).mono fun e w' ⟨hb,h⟩=>by
  unfold Sx.parse at hq
  rw[hq] at h
  exact ⟨h,hb⟩
theorem sRule_ok (s:ByteArray) (N:Nat) (c:Sx.Rule) (hq:Sx.parseRule s.data.toList = .ok c) (w:World) (he:EnvS N w) (hs:s.size≤100000) :
  Calls Tryz.prog 15 #[.string s] w fun e w'=>∃ cs:List Value,e = .returned (.tuple #[.agg cs.toArray,.int .i64 0,.int .i64 0])∧RuleAt w' (Old w') c cs∧Below w.heap.size w w':=
 (sRuleT s N w he hs).mono fun e w' ⟨hb,h⟩=>by
  unfold Sx.parseRule at hq
  rw[hq] at h
  obtain ⟨v,h1,cs,h2,h3⟩:=h
  exact ⟨cs,by rw [←h2];exact h1,RuleAt.keep (fun b hb=>⟨hb.2,fun _=>rfl⟩) _ _ h3,hb⟩
theorem cat_want {w:World} {S:Nat→Prop} {cs:List Value} (h:CatAt w S Sx.want1 cs):∃ a0 ac0 a1 ac1 a2 ac2 a3 ac3 a4 ac4 a5 ac5 a6 ac6,cs = [.slice a0 1 ac0,.slice a1 0 ac1,.slice a2 0 ac2,.slice a3 0 ac3,.slice a4 0 ac4,.slice a5 0 ac5,.slice a6 0 ac6]∧Row w S a0 16 (CourseAt w S) Sx.want1.courses:=by
 obtain ⟨A0,c0,A1,c1,A2,c2,A3,c3,A4,c4,A5,c5,A6,c6,rfl,h0,_⟩:=h
 exact ⟨A0,c0,A1,c1,A2,c2,A3,c3,A4,c4,A5,c5,A6,c6,rfl,h0⟩
theorem cat_none {w:World} {S:Nat→Prop} {cs:List Value} (h:CatAt w S Sx.Cat.none cs):∃ b0 bc0 b1 bc1 b2 bc2 b3 bc3 b4 bc4 b5 bc5 b6 bc6,cs = [.slice b0 0 bc0,.slice b1 0 bc1,.slice b2 0 bc2,.slice b3 0 bc3,.slice b4 0 bc4,.slice b5 0 bc5,.slice b6 0 bc6]∧Row w S b0 16 (CourseAt w S) []:=by
 obtain ⟨A0,c0,A1,c1,A2,c2,A3,c3,A4,c4,A5,c5,A6,c6,rfl,h0,_⟩:=h
 exact ⟨A0,c0,A1,c1,A2,c2,A3,c3,A4,c4,A5,c5,A6,c6,rfl,h0⟩
theorem cat_row {w:World} {S:Nat→Prop} {x:Sx.Cat} {a:Option Addr} {n c:Nat} {r:List Value} (h:CatAt w S x (.slice a n c::r)):Row w S a 16 (CourseAt w S) x.courses:=by
 obtain ⟨A0,c0,A1,c1,A2,c2,A3,c3,A4,c4,A5,c5,A6,c6,he,h0,_⟩:=h
 injection he with e0 _
 injection e0 with e0 _ _
 rw[e0]
 exact h0
theorem rule_two {w:World} {S:Nat→Prop} {cs:List Value} (h:RuleAt w S Sx.two1 cs):∃ A c,cs = [.int .i64 3,.int .i64 0,.string ⟨#[]⟩,.int .i64 2,.int .i64 0,.slice A 2 c]:=by
 unfold Sx.two1 at h
 rw[RuleAt] at h
 obtain ⟨A,c,rfl,_⟩:=h
 exact ⟨A,c,rfl⟩
theorem cat_nil (w:World) (S:Nat→Prop):CatAt w S Sx.Cat.none [.slice none 0 0,.slice none 0 0,.slice none 0 0,.slice none 0 0,.slice none 0 0,.slice none 0 0,.slice none 0 0]:=⟨none,0,none,0,none,0,none,0,none,0,none,0,none,0,rfl,Row.nil _ _ _ _ _,Row.nil _ _ _ _ _,Row.nil _ _ _ _ _,Row.nil _ _ _ _ _,Row.nil _ _ _ _ _,Row.nil _ _ _ _ _,Row.nil _ _ _ _ _⟩
def wantCells:List Value:=[.string ⟨#[77,65,84,72,49]⟩,.int .i64 17,.int .i64 4,.int .i64 0,.int .i64 5,.int .i64 0,.string ⟨#[80,82,69]⟩,.int .i64 5,.int .i64 0,.slice none 0 0,.int .i64 2,.int .i64 0,.string ⟨#[]⟩,.int .i64 0,.int .i64 0,.slice none 0 0]
theorem want_at {w:World} {b:Nat} {t:TypeId} (h:Blk w b t #[.string ⟨#[77,65,84,72,49]⟩,.int .i64 17,.int .i64 4,.int .i64 0,.int .i64 5,.int .i64 0,.string ⟨#[80,82,69]⟩,.int .i64 5,.int .i64 0,.slice none 0 0,.int .i64 2,.int .i64 0,.string ⟨#[]⟩,.int .i64 0,.int .i64 0,.slice none 0 0]) :
  CatAt w (Old w) Sx.want1 [.slice (some ⟨b,0,none⟩) 1 1,.slice none 0 0,.slice none 0 0,.slice none 0 0,.slice none 0 0,.slice none 0 0,.slice none 0 0]:=by
 refine ⟨_,1,none,0,none,0,none,0,none,0,none,0,none,0,rfl,⟨fun k x hk=>?_,by simp [Sx.want1]⟩,Row.nil _ _ _ _ _,Row.nil _ _ _ _ _,Row.nil _ _ _ _ _,Row.nil _ _ _ _ _,Row.nil _ _ _ _ _,Row.nil _ _ _ _ _⟩
 match k,hk with
 | 0,hk=>
  have hk':x=⟨[77,65,84,72,49],17,4,0,.mk 5 0 [80,82,69] 5 0 [],.mk 2 0 [] 0 0 []⟩:=by
   have h2:Sx.want1.courses[0]?=some ⟨[77,65,84,72,49],17,4,0,.mk 5 0 [80,82,69] 5 0 [],.mk 2 0 [] 0 0 []⟩:=rfl
   rw[h2] at hk;injection hk with hk;exact hk.symm
  subst hk'
  refine ⟨b,0,wantCells,rfl,h.lt,⟨_,_,rfl,by simp,rule_leaf _ _ _ _ _ _ _ (by simp),rule_leaf _ _ _ _ _ _ _ (by simp)⟩,fun j v hj=>?_⟩
  rw[h.cell]
  have e:0+0*16+j=j:=by omega
  rw[e]
  unfold wantCells at hj
  simpa using hj
 | k+1,hk=>simp [Sx.want1] at hk
theorem two_at {w:World} {b:Nat} {t:TypeId} (h:Blk w b t #[.int .i64 9,.int .i64 3,.string ⟨#[]⟩,.int .i64 0,.int .i64 0,.slice none 0 0,.int .i64 9,.int .i64 4,.string ⟨#[]⟩,.int .i64 0,.int .i64 0,.slice none 0 0]) :
  RuleAt w (Old w) Sx.two1 [.int .i64 3,.int .i64 0,.string ⟨#[]⟩,.int .i64 2,.int .i64 0,.slice (some ⟨b,0,none⟩) 2 2]:=by
 unfold Sx.two1
 rw[RuleAt]
 refine ⟨_,2,rfl,by simp,by simp,?_⟩
 rw[KidsAt,KidsAt,KidsAt]
 refine ⟨⟨b,0,_,rfl,h.lt,rule_leaf _ _ 9 3 [] 0 0 (by simp),fun j v hj=>?_⟩,⟨b,0,_,rfl,h.lt,rule_leaf _ _ 9 4 [] 0 0 (by simp),fun j v hj=>?_⟩,trivial⟩
 ·rw[h.cell]
  match j,hj with
  | 0,hj=>first | exact hj | simpa [intV,strV] using hj
  | 1,hj=>first | exact hj | simpa [intV,strV] using hj
  | 2,hj=>first | exact hj | simpa [intV,strV] using hj
  | 3,hj=>first | exact hj | simpa [intV,strV] using hj
  | 4,hj=>first | exact hj | simpa [intV,strV] using hj
  | 5,hj=>first | exact hj | simpa [intV,strV] using hj
  | j+6,hj=>simp at hj
 ·rw[h.cell]
  match j,hj with
  | 0,hj=>first | exact hj | simpa [intV,strV] using hj
  | 1,hj=>first | exact hj | simpa [intV,strV] using hj
  | 2,hj=>first | exact hj | simpa [intV,strV] using hj
  | 3,hj=>first | exact hj | simpa [intV,strV] using hj
  | 4,hj=>first | exact hj | simpa [intV,strV] using hj
  | 5,hj=>first | exact hj | simpa [intV,strV] using hj
  | j+6,hj=>simp at hj
theorem want_small:∀ x∈Sx.want1.courses,Sx.smallC x:=fun x hx=>by
 obtain rfl:x=⟨[77,65,84,72,49],17,4,0,.mk 5 0 [80,82,69] 5 0 [],.mk 2 0 [] 0 0 []⟩:=by simpa [Sx.want1] using hx
 exact ⟨.inr (.inr rfl),rfl,rfl,rfl,by decide⟩
set_option maxRecDepth 20000 in
set_option maxHeartbeats 8000000 in
theorem sSane (N:Nat) (w:World) (he:EnvS N w):Calls Tryz.prog 11 #[] w (TruePost w):=by
 have F_B:=Lh (Below.refl w.heap.size w)
 have F_E:=Lh he
 clear he
 go_enter Tryz.func11,Tryz.ntmps11
 go_wp2_with fail
 refine (sParse_ok _ N Sx.want1 Sx.ex1_ok _ F_E.out (by decide)).mono ?_
 rintro e w1 ⟨cs1,rfl,t1,hb⟩
 obtain ⟨a0,ac0,a1,ac1,a2,ac2,a3,ac3,a4,ac4,a5,ac5,a6,ac6,rfl,_⟩:=cat_want t1
 have F_c:=Lh t1
 clear t1
 replace F_B:=Lh (F_B.out.trans (hb.mono F_B.out.size))
 replace F_E:=Lh (F_E.out.next hb)
 clear hb
 go_wp2_with fail
 obtain ⟨P1,hP1⟩:∃ P,P=w1.alloc (.cells #[.slice a0 1 ac0,.slice a1 0 ac1,.slice a2 0 ac2,.slice a3 0 ac3,.slice a4 0 ac4,.slice a5 0 ac5,.slice a6 0 ac6] 30):=⟨_,rfl⟩
 rw[←hP1]
 have hb:Below w1.heap.size w1 P1:=by rw [hP1];exact (Below.refl _ _).alloc (Nat.le_refl _) _
 have p1:Blk P1 w1.heap.size 30 #[.slice a0 1 ac0,.slice a1 0 ac1,.slice a2 0 ac2,.slice a3 0 ac3,.slice a4 0 ac4,.slice a5 0 ac5,.slice a6 0 ac6]:=by rw [hP1];exact Blk.new _ _ _
 clear hP1
 replace F_B:=Lh (F_B.out.trans (hb.mono F_B.out.size))
 replace F_E:=Lh (F_E.out.next hb)
 replace F_c:=Lh (CatAt.keep (old_keep hb) F_c.out)
 clear hb
 have F_p:=Lh p1
 clear p1
 refine (sParse_ok _ N Sx.Cat.none Sx.ex2_ok _ F_E.out (by decide)).mono ?_
 rintro e w2 ⟨cs2,rfl,t2,hb⟩
 obtain ⟨b0,bc0,b1,bc1,b2,bc2,b3,bc3,b4,bc4,b5,bc5,b6,bc6,rfl,_⟩:=cat_none t2
 have F_n:=Lh t2
 clear t2
 replace F_B:=Lh (F_B.out.trans (hb.mono F_B.out.size))
 replace F_E:=Lh (F_E.out.next hb)
 replace F_c:=Lh (CatAt.keep (old_keep hb) F_c.out)
 replace F_p:=Lh (F_p.out.below hb F_p.out.lt)
 clear hb
 go_wp2_with fail
 obtain ⟨P2,hP2⟩:∃ P,P=w2.alloc (.cells #[.slice b0 0 bc0,.slice b1 0 bc1,.slice b2 0 bc2,.slice b3 0 bc3,.slice b4 0 bc4,.slice b5 0 bc5,.slice b6 0 bc6] 30):=⟨_,rfl⟩
 rw[←hP2]
 have hb:Below w2.heap.size w2 P2:=by rw [hP2];exact (Below.refl _ _).alloc (Nat.le_refl _) _
 have p1:Blk P2 w2.heap.size 30 #[.slice b0 0 bc0,.slice b1 0 bc1,.slice b2 0 bc2,.slice b3 0 bc3,.slice b4 0 bc4,.slice b5 0 bc5,.slice b6 0 bc6]:=by rw [hP2];exact Blk.new _ _ _
 clear hP2
 replace F_B:=Lh (F_B.out.trans (hb.mono F_B.out.size))
 replace F_E:=Lh (F_E.out.next hb)
 replace F_c:=Lh (CatAt.keep (old_keep hb) F_c.out)
 replace F_p:=Lh (F_p.out.below hb F_p.out.lt)
 replace F_n:=Lh (CatAt.keep (old_keep hb) F_n.out)
 clear hb
 have F_q:=Lh p1
 clear p1
 refine (sParse_bad _ N 9 100 Sx.ex3_bad _ F_E.out (by decide)).mono ?_
 rintro e w3 ⟨rfl,hb⟩
 replace F_B:=Lh (F_B.out.trans (hb.mono F_B.out.size))
 replace F_E:=Lh (F_E.out.next hb)
 replace F_c:=Lh (CatAt.keep (old_keep hb) F_c.out)
 replace F_p:=Lh (F_p.out.below hb F_p.out.lt)
 replace F_n:=Lh (CatAt.keep (old_keep hb) F_n.out)
 replace F_q:=Lh (F_q.out.below hb F_q.out.lt)
 clear hb
 go_wp2_with fail
 obtain ⟨P3,hP3⟩:∃ P,P=w3.alloc (.cells #[.slice none 0 0,.slice none 0 0,.slice none 0 0,.slice none 0 0,.slice none 0 0,.slice none 0 0,.slice none 0 0] 30):=⟨_,rfl⟩
 rw[←hP3]
 have hb:Below w3.heap.size w3 P3:=by rw [hP3];exact (Below.refl _ _).alloc (Nat.le_refl _) _
 clear hP3
 replace F_B:=Lh (F_B.out.trans (hb.mono F_B.out.size))
 replace F_E:=Lh (F_E.out.next hb)
 replace F_c:=Lh (CatAt.keep (old_keep hb) F_c.out)
 replace F_p:=Lh (F_p.out.below hb F_p.out.lt)
 replace F_n:=Lh (CatAt.keep (old_keep hb) F_n.out)
 replace F_q:=Lh (F_q.out.below hb F_q.out.lt)
 clear hb
 refine (sParse_bad _ N 18 100 Sx.ex4_bad _ F_E.out (by decide)).mono ?_
 rintro e w4 ⟨rfl,hb⟩
 replace F_B:=Lh (F_B.out.trans (hb.mono F_B.out.size))
 replace F_E:=Lh (F_E.out.next hb)
 replace F_c:=Lh (CatAt.keep (old_keep hb) F_c.out)
 replace F_p:=Lh (F_p.out.below hb F_p.out.lt)
 replace F_n:=Lh (CatAt.keep (old_keep hb) F_n.out)
 replace F_q:=Lh (F_q.out.below hb F_q.out.lt)
 clear hb
 go_wp2_with fail
 obtain ⟨P4,hP4⟩:∃ P,P=w4.alloc (.cells #[.slice none 0 0,.slice none 0 0,.slice none 0 0,.slice none 0 0,.slice none 0 0,.slice none 0 0,.slice none 0 0] 30):=⟨_,rfl⟩
 rw[←hP4]
 have hb:Below w4.heap.size w4 P4:=by rw [hP4];exact (Below.refl _ _).alloc (Nat.le_refl _) _
 clear hP4
 replace F_B:=Lh (F_B.out.trans (hb.mono F_B.out.size))
 replace F_E:=Lh (F_E.out.next hb)
 replace F_c:=Lh (CatAt.keep (old_keep hb) F_c.out)
 replace F_p:=Lh (F_p.out.below hb F_p.out.lt)
 replace F_n:=Lh (CatAt.keep (old_keep hb) F_n.out)
 replace F_q:=Lh (F_q.out.below hb F_q.out.lt)
 clear hb
 refine (sRule_ok _ N Sx.two1 Sx.ex5_ok _ F_E.out (by decide)).mono ?_
 rintro e w5 ⟨cs5,rfl,t5,hb⟩
 obtain ⟨rA,rc,rfl⟩:=rule_two t5
 have F_r:=Lh t5
 clear t5
 replace F_B:=Lh (F_B.out.trans (hb.mono F_B.out.size))
 replace F_E:=Lh (F_E.out.next hb)
 replace F_c:=Lh (CatAt.keep (old_keep hb) F_c.out)
 replace F_p:=Lh (F_p.out.below hb F_p.out.lt)
 replace F_n:=Lh (CatAt.keep (old_keep hb) F_n.out)
 replace F_q:=Lh (F_q.out.below hb F_q.out.lt)
 clear hb
 go_wp2_with fail
 obtain ⟨P5,hP5⟩:∃ P,P=w5.alloc (.cells #[.int .i64 3,.int .i64 0,.string ⟨#[]⟩,.int .i64 2,.int .i64 0,.slice rA 2 rc] 38):=⟨_,rfl⟩
 rw[←hP5]
 have hb:Below w5.heap.size w5 P5:=by rw [hP5];exact (Below.refl _ _).alloc (Nat.le_refl _) _
 have p1:Blk P5 w5.heap.size 38 #[.int .i64 3,.int .i64 0,.string ⟨#[]⟩,.int .i64 2,.int .i64 0,.slice rA 2 rc]:=by rw [hP5];exact Blk.new _ _ _
 clear hP5
 replace F_B:=Lh (F_B.out.trans (hb.mono F_B.out.size))
 replace F_E:=Lh (F_E.out.next hb)
 replace F_c:=Lh (CatAt.keep (old_keep hb) F_c.out)
 replace F_p:=Lh (F_p.out.below hb F_p.out.lt)
 replace F_n:=Lh (CatAt.keep (old_keep hb) F_n.out)
 replace F_q:=Lh (F_q.out.below hb F_q.out.lt)
 replace F_r:=Lh (RuleAt.old F_r.out hb)
 clear hb
 have F_s:=Lh p1
 clear p1
 refine (sPrintRuleL N Sx.allR [.int .i64 1,.int .i64 0,.string ⟨#[]⟩,.int .i64 0,.int .i64 0,.slice none 0 0] Sx.exAll _ F_E.out (rule_leaf _ _ 1 0 [] 0 0 (by simp)) rfl (by decide) Sx.exAll_text (by decide)).mono ?_
 rintro e w6 ⟨rfl,hb⟩
 rw[show Lx.bs Sx.exAll=⟨#[97,108,108,32,123,32,125]⟩ from rfl]
 replace F_B:=Lh (F_B.out.trans (hb.mono F_B.out.size))
 replace F_E:=Lh (F_E.out.next hb)
 replace F_c:=Lh (CatAt.keep (old_keep hb) F_c.out)
 replace F_p:=Lh (F_p.out.below hb F_p.out.lt)
 replace F_n:=Lh (CatAt.keep (old_keep hb) F_n.out)
 replace F_q:=Lh (F_q.out.below hb F_q.out.lt)
 replace F_r:=Lh (RuleAt.old F_r.out hb)
 replace F_s:=Lh (F_s.out.below hb F_s.out.lt)
 clear hb
 go_wp2_with fail
 refine (sPrintRuleZ [.int .i64 0,.int .i64 0,.string ⟨#[]⟩,.int .i64 0,.int .i64 0,.slice none 0 0] _ (rule_leaf _ _ 0 0 [] 0 0 (by simp))).mono ?_
 rintro e w7 ⟨rfl,hb⟩
 replace F_B:=Lh (F_B.out.trans (hb.mono F_B.out.size))
 replace F_E:=Lh (F_E.out.next hb)
 replace F_c:=Lh (CatAt.keep (old_keep hb) F_c.out)
 replace F_p:=Lh (F_p.out.below hb F_p.out.lt)
 replace F_n:=Lh (CatAt.keep (old_keep hb) F_n.out)
 replace F_q:=Lh (F_q.out.below hb F_q.out.lt)
 replace F_r:=Lh (RuleAt.old F_r.out hb)
 replace F_s:=Lh (F_s.out.below hb F_s.out.lt)
 clear hb
 have p0:=F_p.out.cell 0;have p1:=F_p.out.cell 1;have p2:=F_p.out.cell 2;have p3:=F_p.out.cell 3;have p4:=F_p.out.cell 4;have p5:=F_p.out.cell 5;have p6:=F_p.out.cell 6
 simp at p0 p1 p2 p3 p4 p5 p6
 have pz:=F_p.out.lt
 go_wp2_with fail
 have hrow:=cat_row F_c.out
 refine (sPrintL N Sx.want1.courses _ 1 _ rfl _ _ _ _ _ _ _ _ _ _ _ _ Sx.exOut _ F_E.out hrow want_small (by decide) Sx.want1_text (by decide)).mono ?_
 rintro e w8 ⟨rfl,hb⟩
 rw[show Lx.bs Sx.exOut=⟨#[99,111,117,114,115,101,32,49,55,32,77,65,84,72,49,32,52,32,123,32,110,101,101,100,32,112,97,115,115,32,80,82,69,32,53,32,59,32,125]⟩ from rfl]
 clear hrow
 clear p0 p1 p2 p3 p4 p5 p6 pz
 replace F_B:=Lh (F_B.out.trans (hb.mono F_B.out.size))
 replace F_E:=Lh (F_E.out.next hb)
 replace F_c:=Lh (CatAt.keep (old_keep hb) F_c.out)
 replace F_p:=Lh (F_p.out.below hb F_p.out.lt)
 replace F_n:=Lh (CatAt.keep (old_keep hb) F_n.out)
 replace F_q:=Lh (F_q.out.below hb F_q.out.lt)
 replace F_r:=Lh (RuleAt.old F_r.out hb)
 replace F_s:=Lh (F_s.out.below hb F_s.out.lt)
 clear hb
 go_upto_region 11 with fail
 obtain ⟨P8,hP8⟩:∃ P,P=(((w8.alloc (.cells #[.string ⟨#[77,65,84,72,49]⟩,.int .i64 17,.int .i64 4,.int .i64 0,.int .i64 5,.int .i64 0,.string ⟨#[80,82,69]⟩,.int .i64 5,.int .i64 0,.slice none 0 0,.int .i64 2,.int .i64 0,.string ⟨#[]⟩,.int .i64 0,.int .i64 0,.slice none 0 0] 58)).alloc (.cells #[.slice (some ⟨w8.heap.size,0,none⟩) 1 1,.slice none 0 0,.slice none 0 0,.slice none 0 0,.slice none 0 0,.slice none 0 0,.slice none 0 0] 30)).alloc (.cells #[.int .i64 9,.int .i64 3,.string ⟨#[]⟩,.int .i64 0,.int .i64 0,.slice none 0 0,.int .i64 9,.int .i64 4,.string ⟨#[]⟩,.int .i64 0,.int .i64 0,.slice none 0 0] 38)).alloc (.cells #[.int .i64 3,.int .i64 0,.string ⟨#[]⟩,.int .i64 2,.int .i64 0,.slice (some ⟨w8.heap.size+1+1,0,none⟩) 2 2] 38):=⟨_,rfl⟩
 rw[←hP8]
 have hb:Below w8.heap.size w8 P8:=by rw [hP8];exact ((((Below.refl _ _).alloc (Nat.le_refl _) _).alloc (by simp) _).alloc (by simp;omega) _).alloc (by simp;omega) _
 have q1:Blk P8 w8.heap.size 58 #[.string ⟨#[77,65,84,72,49]⟩,.int .i64 17,.int .i64 4,.int .i64 0,.int .i64 5,.int .i64 0,.string ⟨#[80,82,69]⟩,.int .i64 5,.int .i64 0,.slice none 0 0,.int .i64 2,.int .i64 0,.string ⟨#[]⟩,.int .i64 0,.int .i64 0,.slice none 0 0]:=by rw [hP8];exact (((Blk.new w8 _ _).alloc _).alloc _).alloc _
 have q2:Blk P8 (w8.heap.size+1) 30 #[.slice (some ⟨w8.heap.size,0,none⟩) 1 1,.slice none 0 0,.slice none 0 0,.slice none 0 0,.slice none 0 0,.slice none 0 0,.slice none 0 0]:=by rw [hP8];exact ((Blk.new_at _ _ (by simp)).alloc _).alloc _
 have q3:Blk P8 (w8.heap.size+1+1) 38 #[.int .i64 9,.int .i64 3,.string ⟨#[]⟩,.int .i64 0,.int .i64 0,.slice none 0 0,.int .i64 9,.int .i64 4,.string ⟨#[]⟩,.int .i64 0,.int .i64 0,.slice none 0 0]:=by rw [hP8];exact (Blk.new_at _ _ (by simp)).alloc _
 have q4:Blk P8 (w8.heap.size+1+1+1) 38 #[.int .i64 3,.int .i64 0,.string ⟨#[]⟩,.int .i64 2,.int .i64 0,.slice (some ⟨w8.heap.size+1+1,0,none⟩) 2 2]:=by rw [hP8];exact Blk.new_at _ _ (by simp)
 clear hP8
 replace F_B:=Lh (F_B.out.trans (hb.mono F_B.out.size))
 replace F_E:=Lh (F_E.out.next hb)
 replace F_c:=Lh (CatAt.keep (old_keep hb) F_c.out)
 replace F_p:=Lh (F_p.out.below hb F_p.out.lt)
 replace F_n:=Lh (CatAt.keep (old_keep hb) F_n.out)
 replace F_q:=Lh (F_q.out.below hb F_q.out.lt)
 replace F_r:=Lh (RuleAt.old F_r.out hb)
 replace F_s:=Lh (F_s.out.below hb F_s.out.lt)
 clear hb
 have F_d:=Lh (want_at q1)
 have F_u:=Lh (two_at q3)
 have F_x:=Lh q2
 have F_y:=Lh q4
 clear q1 q2 q3 q4
 have p0:=F_p.out.cell 0;have p1:=F_p.out.cell 1;have p2:=F_p.out.cell 2;have p3:=F_p.out.cell 3;have p4:=F_p.out.cell 4;have p5:=F_p.out.cell 5;have p6:=F_p.out.cell 6
 simp at p0 p1 p2 p3 p4 p5 p6
 have pz:=F_p.out.lt
 have x0:=F_x.out.cell 0;have x1:=F_x.out.cell 1;have x2:=F_x.out.cell 2;have x3:=F_x.out.cell 3;have x4:=F_x.out.cell 4;have x5:=F_x.out.cell 5;have x6:=F_x.out.cell 6
 simp at x0 x1 x2 x3 x4 x5 x6
 have xz:=F_x.out.lt
 go_wp2_with fail
 clear p0 p1 p2 p3 p4 p5 p6 pz
 clear x0 x1 x2 x3 x4 x5 x6 xz
 refine (rSame Sx.want1 Sx.want1 P8 _ _ F_c.out F_d.out).mono ?_
 rintro e w9 ⟨rfl,hb⟩
 rw[decide_eq_true (rfl:Sx.want1=Sx.want1)]
 replace F_B:=Lh (F_B.out.trans (hb.mono F_B.out.size))
 replace F_E:=Lh (F_E.out.next hb)
 replace F_c:=Lh (CatAt.keep (old_keep hb) F_c.out)
 replace F_p:=Lh (F_p.out.below hb F_p.out.lt)
 replace F_n:=Lh (CatAt.keep (old_keep hb) F_n.out)
 replace F_q:=Lh (F_q.out.below hb F_q.out.lt)
 replace F_r:=Lh (RuleAt.old F_r.out hb)
 replace F_s:=Lh (F_s.out.below hb F_s.out.lt)
 replace F_d:=Lh (CatAt.keep (old_keep hb) F_d.out)
 replace F_u:=Lh (RuleAt.old F_u.out hb)
 replace F_x:=Lh (F_x.out.below hb F_x.out.lt)
 replace F_y:=Lh (F_y.out.below hb F_y.out.lt)
 clear hb
 have q0:=F_q.out.cell 0;have q1:=F_q.out.cell 1;have q2:=F_q.out.cell 2;have q3:=F_q.out.cell 3;have q4:=F_q.out.cell 4;have q5:=F_q.out.cell 5;have q6:=F_q.out.cell 6
 simp at q0 q1 q2 q3 q4 q5 q6
 have qz:=F_q.out.lt
 go_wp2_with fail
 clear q0 q1 q2 q3 q4 q5 q6 qz
 refine (rSame Sx.Cat.none Sx.Cat.none w9 _ _ F_n.out (cat_nil w9 _)).mono ?_
 rintro e w10 ⟨rfl,hb⟩
 rw[decide_eq_true (rfl:Sx.Cat.none=Sx.Cat.none)]
 replace F_B:=Lh (F_B.out.trans (hb.mono F_B.out.size))
 replace F_E:=Lh (F_E.out.next hb)
 replace F_c:=Lh (CatAt.keep (old_keep hb) F_c.out)
 replace F_p:=Lh (F_p.out.below hb F_p.out.lt)
 replace F_n:=Lh (CatAt.keep (old_keep hb) F_n.out)
 replace F_q:=Lh (F_q.out.below hb F_q.out.lt)
 replace F_r:=Lh (RuleAt.old F_r.out hb)
 replace F_s:=Lh (F_s.out.below hb F_s.out.lt)
 replace F_d:=Lh (CatAt.keep (old_keep hb) F_d.out)
 replace F_u:=Lh (RuleAt.old F_u.out hb)
 replace F_x:=Lh (F_x.out.below hb F_x.out.lt)
 replace F_y:=Lh (F_y.out.below hb F_y.out.lt)
 clear hb
 have s0:=F_s.out.cell 0;have s1:=F_s.out.cell 1;have s2:=F_s.out.cell 2;have s3:=F_s.out.cell 3;have s4:=F_s.out.cell 4;have s5:=F_s.out.cell 5
 simp at s0 s1 s2 s3 s4 s5
 have sz:=F_s.out.lt
 have y0:=F_y.out.cell 0;have y1:=F_y.out.cell 1;have y2:=F_y.out.cell 2;have y3:=F_y.out.cell 3;have y4:=F_y.out.cell 4;have y5:=F_y.out.cell 5
 simp at y0 y1 y2 y3 y4 y5
 have yz:=F_y.out.lt
 go_wp2_with fail
 clear s0 s1 s2 s3 s4 s5 sz
 clear y0 y1 y2 y3 y4 y5 yz
 refine (rSameRule _ Sx.two1 Sx.two1 (Nat.lt_succ_self _) w10 _ _ F_r.out F_u.out).mono ?_
 rintro e w11 ⟨rfl,hb⟩
 rw[(Sx.ruleEq_iff Sx.two1 Sx.two1).2 rfl]
 replace F_B:=Lh (F_B.out.trans (hb.mono F_B.out.size))
 replace F_E:=Lh (F_E.out.next hb)
 replace F_c:=Lh (CatAt.keep (old_keep hb) F_c.out)
 replace F_p:=Lh (F_p.out.below hb F_p.out.lt)
 replace F_n:=Lh (CatAt.keep (old_keep hb) F_n.out)
 replace F_q:=Lh (F_q.out.below hb F_q.out.lt)
 replace F_r:=Lh (RuleAt.old F_r.out hb)
 replace F_s:=Lh (F_s.out.below hb F_s.out.lt)
 replace F_d:=Lh (CatAt.keep (old_keep hb) F_d.out)
 replace F_u:=Lh (RuleAt.old F_u.out hb)
 replace F_x:=Lh (F_x.out.below hb F_x.out.lt)
 replace F_y:=Lh (F_y.out.below hb F_y.out.lt)
 clear hb
 have p0:=F_p.out.cell 0;have p1:=F_p.out.cell 1;have p2:=F_p.out.cell 2;have p3:=F_p.out.cell 3;have p4:=F_p.out.cell 4;have p5:=F_p.out.cell 5;have p6:=F_p.out.cell 6
 simp at p0 p1 p2 p3 p4 p5 p6
 have pz:=F_p.out.lt
 have x0:=F_x.out.cell 0;have x1:=F_x.out.cell 1;have x2:=F_x.out.cell 2;have x3:=F_x.out.cell 3;have x4:=F_x.out.cell 4;have x5:=F_x.out.cell 5;have x6:=F_x.out.cell 6
 simp at x0 x1 x2 x3 x4 x5 x6
 have xz:=F_x.out.lt
 go_wp2_with fail
 clear p0 p1 p2 p3 p4 p5 p6 pz
 clear x0 x1 x2 x3 x4 x5 x6 xz
 have hrow:=cat_row F_c.out
 have hrow2:=cat_row F_d.out
 refine (sSameC Sx.want1.courses Sx.want1.courses _ 1 _ _ _ _ _ _ _ _ _ _ _ _ _ _ 1 _ _ _ _ _ _ _ _ _ _ _ _ _ rfl rfl w11 hrow hrow2).mono ?_
 rintro e w12 ⟨rfl,hb⟩
 rw[decide_eq_true (rfl:Sx.want1.courses=Sx.want1.courses)]
 clear hrow hrow2
 replace F_B:=Lh (F_B.out.trans (hb.mono F_B.out.size))
 replace F_E:=Lh (F_E.out.next hb)
 replace F_c:=Lh (CatAt.keep (old_keep hb) F_c.out)
 replace F_p:=Lh (F_p.out.below hb F_p.out.lt)
 replace F_n:=Lh (CatAt.keep (old_keep hb) F_n.out)
 replace F_q:=Lh (F_q.out.below hb F_q.out.lt)
 replace F_r:=Lh (RuleAt.old F_r.out hb)
 replace F_s:=Lh (F_s.out.below hb F_s.out.lt)
 replace F_d:=Lh (CatAt.keep (old_keep hb) F_d.out)
 replace F_u:=Lh (RuleAt.old F_u.out hb)
 replace F_x:=Lh (F_x.out.below hb F_x.out.lt)
 replace F_y:=Lh (F_y.out.below hb F_y.out.lt)
 clear hb
 have p0:=F_p.out.cell 0;have p1:=F_p.out.cell 1;have p2:=F_p.out.cell 2;have p3:=F_p.out.cell 3;have p4:=F_p.out.cell 4;have p5:=F_p.out.cell 5;have p6:=F_p.out.cell 6
 simp at p0 p1 p2 p3 p4 p5 p6
 have pz:=F_p.out.lt
 have q0:=F_q.out.cell 0;have q1:=F_q.out.cell 1;have q2:=F_q.out.cell 2;have q3:=F_q.out.cell 3;have q4:=F_q.out.cell 4;have q5:=F_q.out.cell 5;have q6:=F_q.out.cell 6
 simp at q0 q1 q2 q3 q4 q5 q6
 have qz:=F_q.out.lt
 go_wp2_with fail
 clear p0 p1 p2 p3 p4 p5 p6 pz
 clear q0 q1 q2 q3 q4 q5 q6 qz
 have hrow:=cat_row F_c.out
 have hrow2:=cat_row F_n.out
 refine (sSameC Sx.want1.courses [] _ 1 _ _ _ _ _ _ _ _ _ _ _ _ _ _ 0 _ _ _ _ _ _ _ _ _ _ _ _ _ rfl rfl w12 hrow hrow2).mono ?_
 rintro e w13 ⟨rfl,hb⟩
 rw[decide_eq_false (by decide:¬ Sx.want1.courses = [])]
 clear hrow hrow2
 replace F_B:=Lh (F_B.out.trans (hb.mono F_B.out.size))
 replace F_E:=Lh (F_E.out.next hb)
 replace F_c:=Lh (CatAt.keep (old_keep hb) F_c.out)
 replace F_p:=Lh (F_p.out.below hb F_p.out.lt)
 replace F_n:=Lh (CatAt.keep (old_keep hb) F_n.out)
 replace F_q:=Lh (F_q.out.below hb F_q.out.lt)
 replace F_r:=Lh (RuleAt.old F_r.out hb)
 replace F_s:=Lh (F_s.out.below hb F_s.out.lt)
 replace F_d:=Lh (CatAt.keep (old_keep hb) F_d.out)
 replace F_u:=Lh (RuleAt.old F_u.out hb)
 replace F_x:=Lh (F_x.out.below hb F_x.out.lt)
 replace F_y:=Lh (F_y.out.below hb F_y.out.lt)
 clear hb
 go_wp2_with fail
 go_ret
 exact ⟨ret_bool rfl,F_B.out⟩
end Go.Proofs.YtjonaidancomgaaGreatDoor

namespace Go.Proofs.YtjonaidancomgaaGreatDoor
open Go.RowKit

section
variable {w W V : World} {a b i lo hi : Nat} {t : TypeId} {cs cs' : Array Value} {u : Value} {B : World}
theorem bmv (h:Hid (Blk W a t cs)) (hb:Below W.heap.size W V):Hid (Blk V a t cs):=Lh (h.out.below hb h.out.lt)
theorem bmb (h:Hid (Below w.heap.size w W)) (hb:Below W.heap.size W V):Hid (Below w.heap.size w V):=Lh (h.out.trans (hb.mono h.out.size))
theorem bss (e:V=W.setCell ⟨b,i,none⟩ u):V.heap.size=W.heap.size:=by rw [e];simp[World.setCell]
theorem bst (e:V=W.setCell ⟨b,i,none⟩ u) (h:Hid (Blk W a t cs)) (hn:a≠b):Hid (Blk V a t cs):=by rw [e];exact Lh (h.out.far (p:=⟨b,i,none⟩) hn u)
theorem bsb (e:V=W.setCell ⟨b,i,none⟩ u) (h:Hid (Below w.heap.size w W)) (hn:w.heap.size≤b):Hid (Below w.heap.size w V):=by rw [e];exact Lh (h.out.setCell (p:=⟨b,i,none⟩) hn u)
theorem bsc (e:V=W.setCell ⟨b,i,none⟩ u) (h:Hid (Blk W b t cs)) (hc:cs.setIfInBounds i u=cs'):Hid (Blk V b t cs'):=by rw [e,←hc];exact Lh (h.out.set i u)
theorem bfr (hf:∀ k,k≠b→V.heap[k]?=W.heap[k]?) (h:Hid (Blk W a t cs)) (hn:a≠b):Hid (Blk V a t cs):=Lh ((hf a hn).trans h.out)
theorem bnw (e:V=W.alloc (.cells cs t)):Hid (Blk V W.heap.size t cs)∧Below W.heap.size W V:=by rw [e];exact ⟨Lh (Blk.new _ _ _),(Below.refl _ _).alloc (Nat.le_refl _) _⟩
theorem bat (h:Hid (Blk W a t cs)) (e:a=b):Hid (Blk W b t cs):=e ▸ h
structure Kp (lo hi : Nat) (B W : World) : Prop where
 le:hi≤W.heap.size
 eq:∀ b,lo≤b→b < hi→W.heap[b]?=B.heap[b]?
theorem kpn (lo:Nat) (W:World):Hid (Kp lo W.heap.size W W):=Lh ⟨Nat.le_refl _,fun _ _ _=>rfl⟩
theorem kpm (h:Hid (Kp lo hi B W)) (hb:Below W.heap.size W V):Hid (Kp lo hi B V):=Lh ⟨Nat.le_trans h.out.le hb.size,fun b h1 h2=>(hb.block b (Nat.lt_of_lt_of_le h2 h.out.le)).trans (h.out.eq b h1 h2)⟩
theorem kpf (hf:∀ k,k≠b→V.heap[k]?=W.heap[k]?) (hs:V.heap.size=W.heap.size) (h:Hid (Kp lo hi B W)) (hn:b < lo∨hi≤b):Hid (Kp lo hi B V):=Lh ⟨by rw [hs];exact h.out.le,fun k h1 h2=>(hf k (by omega)).trans (h.out.eq k h1 h2)⟩
theorem kps (e:V=W.setCell ⟨b,i,none⟩ u) (h:Hid (Kp lo hi B W)) (hn:b < lo∨hi≤b):Hid (Kp lo hi B V):=kpf (fun k hk=>by rw [e];exact Below.heap_setCell _ ⟨b,i,none⟩ _ k hk) (bss e) h hn
end
end Go.Proofs.YtjonaidancomgaaGreatDoor

namespace Go.Proofs.YtjonaidancomgaaGreatDoor
open Go.RowKit

structure PCtx (T : List Lx.Tok) (A : Option Addr) (w : World) : Prop where
 toks:Toks w w.heap.size A T
 small:∀ t∈T,0≤t.n∧t.n≤1099511627776
 few:T.length≤1000000
theorem PCtx.next {T:List Lx.Tok} {A:Option Addr} {w w':World} (h:PCtx T A w) (hb:Below w.heap.size w w'):PCtx T A w':=⟨(h.toks.below hb (Nat.le_refl _)).mono hb.size,h.small,h.few⟩
def PAt (T:List Lx.Tok) (s:Sx.R Unit) (k e p:Int):Prop:=
 match s with
 | .ok _ l=>e=0∧p=0∧∃ j:Nat,k=j∧j≤T.length∧l=T.drop j
 | .bad q x=>e=x∧p=q∧x≠0
def pv (A:Option Addr) (n c:Nat) (k last e p:Int):Value:=.agg #[.slice A n c,.int .i64 k,.int .i64 last,.int .i64 e,.int .i64 p]
def PPost (T:List Lx.Tok) (A:Option Addr) (c:Nat) (last:Int) (s:Sx.R Unit) (w:World) (e:Ending) (w':World):Prop:=
 ∃ k x p,e = .returned (pv A T.length c k last x p)∧PAt T s k x p∧Below w.heap.size w w'
def PRead {α:Type} (T:List Lx.Tok) (A:Option Addr) (c:Nat) (last:Int) (V:World→α→List Value→Prop) (r:Sx.R α) (w:World) (e:Ending) (w':World):Prop:=
 ∃ a vs k x p,e = .returned (.tuple (vs++[pv A T.length c k last x p]).toArray)∧r.Val a∧V w' a vs∧PAt T r.void k x p∧Below w.heap.size w w'
theorem PCtx.tok {T:List Lx.Tok} {A:Option Addr} {w:World} (h:PCtx T A w) {j:Nat} {t:Lx.Tok} (ht:T[j]?=some t):∃ b o,A=some ⟨b,o,none⟩∧b < w.heap.size∧TokAt w b (o+j*4) t:=h.toks.at_ j t ht
section
variable {T : List Lx.Tok} {A : Option Addr} {c : Nat} {last k e p : Int} {s : Sx.R Unit} {w : World}
theorem drop_cons {j:Nat} {t:Lx.Tok} {r:List Lx.Tok} (h:t::r=T.drop j):j < T.length∧T[j]?=some t∧r=T.drop (j+1):=by
 have h1:j < T.length:=by
  rcases Nat.lt_or_ge j T.length with h1 | h1
  ·exact h1
  ·rw[List.drop_eq_nil_of_le h1] at h;cases h
 rw[List.drop_eq_getElem_cons h1] at h
 injection h with e1 e2
 exact ⟨h1,by rw [e1];exact List.getElem?_eq_getElem h1,e2⟩
theorem PAt.cases {T:List Lx.Tok} {s:Sx.R Unit} {k e p:Int} (h:PAt T s k e p) :
  (s = .bad p e∧e≠0)∨(s = .ok () []∧e=0∧p=0∧k=T.length)∨∃ (j:Nat) (t:Lx.Tok),s = .ok () (t::T.drop (j+1))∧e=0∧p=0∧k=j∧j < T.length∧T[j]?=some t:=by
 cases s with
 | bad q x=>obtain ⟨rfl,rfl,h⟩:=h;exact .inl ⟨rfl,h⟩
 | ok u l=>
  obtain ⟨rfl,rfl,j,rfl,hj,hl⟩:=h
  cases l with
  | nil=>
   have:T.length≤j:=by have:=congrArg List.length hl;rw[List.length_drop] at this;simp at this;omega
   exact .inr (.inl ⟨rfl,rfl,rfl,by omega⟩)
  | cons t r=>
   obtain ⟨h1,h2,h3⟩:=drop_cons hl
   exact .inr (.inr ⟨j,t,by rw [h3],rfl,rfl,rfl,h1,h2⟩)
theorem PAt.tail {T:List Lx.Tok} {j:Nat} (h:j < T.length):PAt T (.ok () (T.drop (j+1))) ((j:Int)+1) 0 0:=⟨rfl,rfl,j+1,by simp,by omega,rfl⟩
set_option maxRecDepth 20000 in
set_option maxHeartbeats 1000000 in
theorem pFail (T:List Lx.Tok) (A:Option Addr) (c:Nat) (last x:Int) (hx:x≠0) (s:Sx.R Unit) (k e p:Int) (w:World) (hc:PCtx T A w) (hp:PAt T s k e p) :
  Calls Tryz.prog 38 #[pv A T.length c k last e p,.int .i64 x] w (PPost T A c last (Sx.go s fun l=>Sx.fail last l x) w):=by
 have hlen:=hc.toks.len
 obtain ⟨n,hn⟩:∃ n,n=T.length:=⟨_,rfl⟩
 unfold PPost
 rw[←hn] at hlen ⊢
 have Hn:=Lh hn
 unfold pv
 rcases hp.cases with ⟨rfl,hy⟩ | ⟨rfl,rfl,rfl,rfl⟩ | ⟨j,t,rfl,rfl,rfl,rfl,hj,ht⟩
 ·have hy2:(e == 0)=false:=by simpa using hy
  have hy3:(e != 0)=true:=by simpa using hy
  clear hc hp hn hx
  go_enter Tryz.func38,Tryz.ntmps38
  go_wp2_with fail
  refine bodyPost_ret (v:=pv A n c k last e p) (by simp [results,Tryz.results38,go_sem,pv]) rfl ⟨_,_,_,rfl,⟨rfl,rfl,hy⟩,?_⟩
  repeat first | exact Below.refl _ _ | refine Below.setCell ?_ (by simp) _ | refine Below.alloc ?_ (by simp) _
 ·rw[←hn] at hp ⊢
  have hz:¬ (n:Int) < n:=by omega
  clear hc hp hn
  go_enter Tryz.func38,Tryz.ntmps38
  go_wp2_with fail
  refine bodyPost_ret (v:=pv A n c n last x last) (by simp [results,Tryz.results38,go_sem,pv]) rfl ⟨_,_,_,rfl,⟨rfl,rfl,hx⟩,?_⟩
  repeat first | exact Below.refl _ _ | refine Below.setCell ?_ (by simp) _ | refine Below.alloc ?_ (by simp) _
 ·obtain ⟨b,o,rfl,hb,q0,q1,q2,q3⟩:=hc.tok ht
  have hj2:j < n:=by omega
  clear hc hp hn
  go_enter Tryz.func38,Tryz.ntmps38
  go_wp2_with fail
  refine bodyPost_ret (v:=pv (some ⟨b,o,none⟩) n c j last x t.pos) (by simp [results,Tryz.results38,go_sem,pv]) rfl ⟨_,_,_,rfl,⟨rfl,rfl,hx⟩,?_⟩
  repeat first | exact Below.refl _ _ | refine Below.setCell ?_ (by simp) _ | refine Below.alloc ?_ (by simp) _
theorem pIs (T:List Lx.Tok) (A:Option Addr) (c:Nat) (last kd:Int) (x:ByteArray) (s:Sx.R Unit) (k e p:Int) (w:World) (hc:PCtx T A w) (hp:PAt T s k e p) :
  Calls Tryz.prog 92 #[pv A T.length c k last e p,.int .i64 kd,.string x] w (BoolPost (s.hits kd x.data.toList) w):=by
 have hlen:=hc.toks.len
 obtain ⟨n,hn⟩:∃ n,n=T.length:=⟨_,rfl⟩
 rw[←hn] at hlen ⊢
 have Hn:=Lh hn
 unfold pv
 rcases hp.cases with ⟨rfl,hy⟩ | ⟨rfl,rfl,rfl,rfl⟩ | ⟨j,t,rfl,rfl,rfl,rfl,hj,ht⟩
 ·have hy2:(e == 0)=false:=by simpa using hy
  clear hc hp hn
  go_enter Tryz.func92,Tryz.ntmps92
  go_wp2_with fail
  go_ret
  refine ⟨rfl,?_⟩
  repeat first | exact Below.refl _ _ | refine Below.setCell ?_ (by simp) _ | refine Below.alloc ?_ (by simp) _
 ·rw[←hn] at hp ⊢
  have hz:¬ (n:Int) < n:=by omega
  clear hc hp hn
  go_enter Tryz.func92,Tryz.ntmps92
  go_wp2_with fail
  go_ret
  refine ⟨rfl,?_⟩
  repeat first | exact Below.refl _ _ | refine Below.setCell ?_ (by simp) _ | refine Below.alloc ?_ (by simp) _
 ·obtain ⟨b,o,rfl,hb,q0,q1,q2,q3⟩:=hc.tok ht
  have hj2:j < n:=by omega
  have hx:((Lx.bs t.text).toList == x.toList)=(t.text == x.data.toList):=by rw [ByteArray.toList_eq,ByteArray.toList_eq,Lx.bs_list]
  have HR:Hid (Sx.R.hits (.ok () (t::T.drop (j+1))) kd x.data.toList=(t.kind == kd && t.text == x.data.toList)):=Lh rfl
  clear hc hp hn ht
  rw[HR.out]
  cases hk:t.kind == kd
  ·clear hx
   go_enter Tryz.func92,Tryz.ntmps92
   go_wp2_with fail
   go_ret
   refine ⟨rfl,?_⟩
   repeat first | exact Below.refl _ _ | refine Below.setCell ?_ (by simp) _ | refine Below.alloc ?_ (by simp) _
  ·cases ht:t.text == x.data.toList
   all_goals
    rw[ht] at hx
    clear ht
    go_enter Tryz.func92,Tryz.ntmps92
    go_wp2_with fail
    go_ret
    refine ⟨rfl,?_⟩
    repeat first | exact Below.refl _ _ | refine Below.setCell ?_ (by simp) _ | refine Below.alloc ?_ (by simp) _
end
end Go.Proofs.YtjonaidancomgaaGreatDoor

namespace Go.Proofs.YtjonaidancomgaaGreatDoor
open Go.RowKit

theorem pbox (w:World) (c0 c1 c2 c3 c4:Value):∃ W1 W2:World,W1=w.alloc (.cells #[c0,c1,c2,c3,c4] 64)∧W2=W1.alloc (.cells #[.slice none 0 0,.int .i64 0,.int .i64 0,.int .i64 0,.int .i64 0] 64)∧
  Blk W2 w.heap.size 64 #[c0,c1,c2,c3,c4]∧Blk W2 (w.heap.size+1) 64 #[.slice none 0 0,.int .i64 0,.int .i64 0,.int .i64 0,.int .i64 0]∧Below w.heap.size w W2∧W2.heap.size=w.heap.size+2:=by
 refine ⟨_,_,rfl,rfl,((Blk.new w _ _).alloc _),?_,?_,by simp⟩
 ·have:=Blk.new (w.alloc (.cells #[c0,c1,c2,c3,c4] 64)) 64 #[.slice none 0 0,.int .i64 0,.int .i64 0,.int .i64 0,.int .i64 0]
  simpa using this
 ·exact ((Below.refl _ _).alloc (Nat.le_refl _) _).alloc (by simp) _
theorem cells5 {w:World} {b:Nat} {t:TypeId} {v0 v1 v2 v3 v4:Value} (h:Blk w b t #[v0,v1,v2,v3,v4]):w.cell? ⟨b,0,none⟩=some v0∧w.cell? ⟨b,1,none⟩=some v1∧w.cell? ⟨b,2,none⟩=some v2∧w.cell? ⟨b,3,none⟩=some v3∧w.cell? ⟨b,4,none⟩=some v4∧b < w.heap.size:=
 ⟨(h.cell 0).trans rfl,(h.cell 1).trans rfl,(h.cell 2).trans rfl,(h.cell 3).trans rfl,(h.cell 4).trans rfl,h.lt⟩
theorem frees5 {w:World} {b:Nat} {t:TypeId} {cs:Array Value} (h:Blk w b t cs):w.frozen? ⟨b,0,none⟩=false∧w.frozen? ⟨b,1,none⟩=false∧w.frozen? ⟨b,2,none⟩=false∧w.frozen? ⟨b,3,none⟩=false∧w.frozen? ⟨b,4,none⟩=false:=⟨h.free 0,h.free 1,h.free 2,h.free 3,h.free 4⟩
theorem pstore {w:World} {b:Nat} {z0 z1 z2 z3 z4:Value} (h:Blk w b 64 #[z0,z1,z2,z3,z4]) (a0 a1 a2 a3 a4:Value):∃ W:World,W=((((w.setCell ⟨b,0,none⟩ a0).setCell ⟨b,1,none⟩ a1).setCell ⟨b,2,none⟩ a2).setCell ⟨b,3,none⟩ a3).setCell ⟨b,4,none⟩ a4∧
  (W.cell? ⟨b,0,none⟩=some a0∧W.cell? ⟨b,1,none⟩=some a1∧W.cell? ⟨b,2,none⟩=some a2∧W.cell? ⟨b,3,none⟩=some a3∧W.cell? ⟨b,4,none⟩=some a4∧b < W.heap.size)∧∀ (B:Nat) (w0:World),Below B w0 w→B≤b→Below B w0 W:=by
 refine ⟨_,rfl,?_,fun B w0 hb hB=>((((hb.setCell (p:=⟨b,0,none⟩) hB a0).setCell (p:=⟨b,1,none⟩) hB a1).setCell (p:=⟨b,2,none⟩) hB a2).setCell (p:=⟨b,3,none⟩) hB a3).setCell (p:=⟨b,4,none⟩) hB a4⟩
 have:=((((h.set 0 a0).set 1 a1).set 2 a2).set 3 a3).set 4 a4
 exact cells5 (by simpa using this)
section
variable {T : List Lx.Tok} {A : Option Addr} {c : Nat} {last k e p : Int} {s : Sx.R Unit} {w : World}
set_option maxRecDepth 20000 in
set_option maxHeartbeats 1000000 in
theorem pW (T:List Lx.Tok) (A:Option Addr) (c:Nat) (last:Int) (x:ByteArray) (s:Sx.R Unit) (k e p:Int) (w:World) (hc:PCtx T A w) (hp:PAt T s k e p) :
  Calls Tryz.prog 31 #[pv A T.length c k last e p,.string x] w (BoolPost (s.hits 1 x.data.toList) w):=by
 have Hcall:=Lh (fun w' h=>pIs T A c last 1 x s k e p w' h hp)
 obtain ⟨n,hn⟩:∃ n,n=T.length:=⟨_,rfl⟩
 rw[←hn] at Hcall ⊢
 have HC:=Lh hc
 unfold pv at Hcall ⊢
 obtain ⟨W1,hW1⟩:∃ W1,W1=w.alloc (.cells #[.slice A n c,.int .i64 k,.int .i64 last,.int .i64 e,.int .i64 p] 64):=⟨_,rfl⟩
 have HB:=Lh (show Below w.heap.size w W1 by rw [hW1];exact (Below.refl _ _).alloc (Nat.le_refl _) _)
 clear hc hp hn
 go_enter Tryz.func31,Tryz.ntmps31
 go_wp2_with fail
 rw[←hW1]
 refine (Hcall.out _ (HC.out.next HB.out)).mono ?_
 rintro e' w1 ⟨rfl,hb⟩
 have HB1:=Lh (HB.out.trans (hb.mono HB.out.size))
 clear hb
 go_wp2_with fail
 go_ret
 exact ⟨rfl,HB1.out⟩
set_option maxRecDepth 20000 in
set_option maxHeartbeats 1000000 in
theorem pS (T:List Lx.Tok) (A:Option Addr) (c:Nat) (last:Int) (x:ByteArray) (s:Sx.R Unit) (k e p:Int) (w:World) (hc:PCtx T A w) (hp:PAt T s k e p) :
  Calls Tryz.prog 114 #[pv A T.length c k last e p,.string x] w (BoolPost (s.hits 3 x.data.toList) w):=by
 have Hcall:=Lh (fun w' h=>pIs T A c last 3 x s k e p w' h hp)
 obtain ⟨n,hn⟩:∃ n,n=T.length:=⟨_,rfl⟩
 rw[←hn] at Hcall ⊢
 have HC:=Lh hc
 unfold pv at Hcall ⊢
 obtain ⟨W1,hW1⟩:∃ W1,W1=w.alloc (.cells #[.slice A n c,.int .i64 k,.int .i64 last,.int .i64 e,.int .i64 p] 64):=⟨_,rfl⟩
 have HB:=Lh (show Below w.heap.size w W1 by rw [hW1];exact (Below.refl _ _).alloc (Nat.le_refl _) _)
 clear hc hp hn
 go_enter Tryz.func114,Tryz.ntmps114
 go_wp2_with fail
 rw[←hW1]
 refine (Hcall.out _ (HC.out.next HB.out)).mono ?_
 rintro e' w1 ⟨rfl,hb⟩
 have HB1:=Lh (HB.out.trans (hb.mono HB.out.size))
 clear hb
 go_wp2_with fail
 go_ret
 exact ⟨rfl,HB1.out⟩
set_option maxRecDepth 20000 in
set_option maxHeartbeats 1000000 in
theorem pExpect (T:List Lx.Tok) (A:Option Addr) (c:Nat) (last kd:Int) (x:ByteArray) (s:Sx.R Unit) (k e p:Int) (w:World) (hc:PCtx T A w) (hp:PAt T s k e p) :
  Calls Tryz.prog 170 #[pv A T.length c k last e p,.int .i64 kd,.string x] w (PPost T A c last (Sx.go s (Sx.need last kd x.data.toList)) w):=by
 have Hcall:=Lh (fun w' h=>pIs T A c last kd x s k e p w' h hp)
 have Hfail:=Lh (fun w' h=>pFail T A c last 100 (by decide) s k e p w' h hp)
 have hlen:=hc.toks.len
 obtain ⟨R,hR⟩:∃ R,R=Sx.go s (Sx.need last kd x.data.toList):=⟨_,rfl⟩
 rw[←hR]
 have HC:=Lh hc
 cases hh:s.hits kd x.data.toList with
 | false=>
  rw[hh] at Hcall
  rw[Sx.go_need_no hh] at hR
  rw[←hR] at Hfail
  obtain ⟨n,hn⟩:∃ n,n=T.length:=⟨_,rfl⟩
  unfold PPost at Hfail ⊢
  rw[←hn] at Hcall Hfail hlen ⊢
  unfold pv at Hcall Hfail ⊢
  obtain ⟨W1,W2,hW1,hW2,p1,p2,hb,hsz⟩:=pbox w (.slice A n c) (.int .i64 k) (.int .i64 last) (.int .i64 e) (.int .i64 p)
  have HB:=Lh hb;have HP:=Lh p1;have HQ:=Lh p2
  obtain ⟨x0,x1,x2,x3,x4,xz⟩:=cells5 p1
  clear hc hp hn hR hh hb p1 p2
  go_enter Tryz.func170,Tryz.ntmps170
  go_upto_region 1 with fail
  rw[←hW1,←hW2]
  clear hW1 hW2
  go_wp2_with fail
  refine (Hcall.out _ (HC.out.next HB.out)).mono ?_
  rintro e' w1 ⟨rfl,hb⟩
  have HB1:=Lh (HB.out.trans (hb.mono HB.out.size));have HP1:=Lh (HP.out.below hb xz);have HQ1:=Lh (HQ.out.below hb (by omega))
  have hg:=hb.size
  clear hb x0 x1 x2 x3 x4 xz
  obtain ⟨x0,x1,x2,x3,x4,xz⟩:=cells5 HP1.out
  go_wp2_with fail
  refine (Hfail.out _ (HC.out.next HB1.out)).mono ?_
  rintro e' w2 ⟨k',x',p',rfl,ha,hb⟩
  have HB2:=Lh (HB1.out.trans (hb.mono HB1.out.size));have HQ2:=Lh (HQ1.out.below hb (by omega));have HA:=Lh ha
  obtain ⟨y0,y1,y2,y3,y4,yz⟩:=cells5 HQ2.out
  obtain ⟨f0,f1,f2,f3,f4⟩:=frees5 HQ2.out
  clear hb ha x0 x1 x2 x3 x4 xz
  obtain ⟨W9,hW9,t,hb9⟩:=pstore HQ2.out (.slice A n c) (.int .i64 k') (.int .i64 last) (.int .i64 x') (.int .i64 p')
  have HB9:=Lh (hb9 w.heap.size w HB2.out (by omega));have HT:=Lh t;have HW9:=Lh hW9
  clear t hb9 hW9
  go_wp2_with fail
  rw[←HW9.out]
  obtain ⟨t0,t1,t2,t3,t4,tz⟩:=HT.out
  refine bodyPost_ret (v:=pv A n c k' last x' p') (by simp [results,Tryz.results170,go_sem,pv,t0,t1,t2,t3,t4]) rfl ⟨_,_,_,rfl,HA.out,HB9.out⟩
 | true=>
  rw[hh] at Hcall
  obtain ⟨l,rfl,h1,h2⟩:=Sx.hits_need (last:=last) s hh
  rw[h2] at hR
  obtain ⟨t,r,rfl⟩:∃ t r,l=t::r:=by cases l with
   | nil=>cases h1
   | cons t r=>exact ⟨t,r,rfl⟩
  rcases hp.cases with ⟨h,_⟩ | ⟨h,_⟩ | ⟨j,t',h,rfl,rfl,rfl,hj,_⟩
  ·cases h
  ·cases h
  injection h with _ h
  injection h with _ h
  have HR:=Lh (show PAt T R ((j:Int)+1) 0 0 by rw [hR,List.tail_cons,h];exact PAt.tail hj)
  obtain ⟨n,hn⟩:∃ n,n=T.length:=⟨_,rfl⟩
  unfold PPost
  rw[←hn] at Hcall hlen hj ⊢
  unfold pv at Hcall ⊢
  obtain ⟨W1,W2,hW1,hW2,p1,p2,hb,hsz⟩:=pbox w (.slice A n c) (.int .i64 j) (.int .i64 last) (.int .i64 0) (.int .i64 0)
  have HB:=Lh hb;have HP:=Lh p1;have HQ:=Lh p2
  obtain ⟨x0,x1,x2,x3,x4,xz⟩:=cells5 p1
  clear hc hp hn hR hh hb p1 p2 Hfail h h1 h2
  go_enter Tryz.func170,Tryz.ntmps170
  go_upto_region 1 with fail
  rw[←hW1,←hW2]
  clear hW1 hW2
  go_wp2_with fail
  refine (Hcall.out _ (HC.out.next HB.out)).mono ?_
  rintro e' w1 ⟨rfl,hb⟩
  have HB1:=Lh (HB.out.trans (hb.mono HB.out.size));have HP1:=Lh (HP.out.below hb xz);have HQ1:=Lh (HQ.out.below hb (by omega))
  have hg:=hb.size
  clear hb x0 x1 x2 x3 x4 xz
  obtain ⟨x0,x1,x2,x3,x4,xz⟩:=cells5 HP1.out
  obtain ⟨e0,e1,e2,e3,e4⟩:=frees5 HP1.out
  obtain ⟨y0,y1,y2,y3,y4,yz⟩:=cells5 HQ1.out
  obtain ⟨f0,f1,f2,f3,f4⟩:=frees5 HQ1.out
  obtain ⟨W9,hW9,t,hb9⟩:=pstore (HQ1.out.far (p:=⟨w.heap.size,1,none⟩) (by simp) (.int .i64 ((j:Int)+1))) (.slice A n c) (.int .i64 ((j:Int)+1)) (.int .i64 last) (.int .i64 0) (.int .i64 0)
  have HB9:=Lh (hb9 w.heap.size w (HB1.out.setCell (Nat.le_refl _) _) (by omega));have HT:=Lh t;have HW9:=Lh hW9
  clear t hb9 hW9
  go_wp2_with fail
  rw[←HW9.out]
  obtain ⟨t0,t1,t2,t3,t4,tz⟩:=HT.out
  refine bodyPost_ret (v:=pv A n c ((j:Int)+1) last 0 0) (by simp [results,Tryz.results170,go_sem,pv,t0,t1,t2,t3,t4]) rfl ⟨_,_,_,rfl,HR.out,HB9.out⟩
end
end Go.Proofs.YtjonaidancomgaaGreatDoor
