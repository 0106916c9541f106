/- Parts of the proof, joined into one text: SxSan, SxGro, SxJnM. -/
import Derived.Test.YtjonaidancomgaaGreatDoorBSxParseR
import Derived.Test.YtjonaidancomgaaGreatDoorBSxSameC
import Derived.Test.YtjonaidancomgaaGreatDoorBSxPrT
import Derived.Test.YtjonaidancomgaaGreatDoorBSxEqf
import Derived.Deep.Cut
import Derived.Test.YtjonaidancomgaaGreatDoorBSxKids
import Derived.Deep.AppendLies
import Derived.Deep.Upon

namespace Go.Proofs.YtjonaidancomgaaGreatDoor
open Go.RowKit

def TruePost (w:World) (e:Ending) (w':World):Prop:=e = .returned (.bool true)∧Below w.heap.size w w'
theorem sParse_ok (s:ByteArray) (N:Nat) (c:Sx.Cat) (hq:Sx.parse s.data.toList = .ok c) (w:World) (he:EnvS N w) (hs:s.size≤100000) :
  Calls Tryz.prog 12 #[.string s] w fun e w'=>∃ cs:List Value,e = .returned (.tuple #[.agg cs.toArray,.int .i64 0,.int .i64 0])∧CatAt w' (Old w') c cs∧Below w.heap.size w w':=
 (sParseT s N w he hs).mono fun e w' ⟨hb,h⟩=>by
  unfold Sx.parse at hq
  rw[hq] at h
  obtain ⟨v,h1,cs,h2,h3⟩:=h
  exact ⟨cs,by rw [←h2];exact h1,CatAt.keep (fun b hb=>⟨hb.2,fun _=>rfl⟩) h3,hb⟩
theorem sParse_bad (s:ByteArray) (N:Nat) (p x:Int) (hq:Sx.parse s.data.toList = .bad p x) (w:World) (he:EnvS N w) (hs:s.size≤100000) :
  Calls Tryz.prog 12 #[.string s] w fun e w'=>e = .returned (.tuple #[.agg #[.slice none 0 0,.slice none 0 0,.slice none 0 0,.slice none 0 0,.slice none 0 0,.slice none 0 0,.slice none 0 0],.int .i64 p,.int .i64 x])∧Below w.heap.size w w':=
 (sParseT s N w he hs).mono fun e w' ⟨hb,h⟩=>by
  unfold Sx.parse at hq
  rw[hq] at h
  exact ⟨h,hb⟩
theorem sRule_ok (s:ByteArray) (N:Nat) (c:Sx.Rule) (hq:Sx.parseRule s.data.toList = .ok c) (w:World) (he:EnvS N w) (hs:s.size≤100000) :
  Calls Tryz.prog 15 #[.string s] w fun e w'=>∃ cs:List Value,e = .returned (.tuple #[.agg cs.toArray,.int .i64 0,.int .i64 0])∧RuleAt w' (Old w') c cs∧Below w.heap.size w w':=
 (sRuleT s N w he hs).mono fun e w' ⟨hb,h⟩=>by
  unfold Sx.parseRule at hq
  rw[hq] at h
  obtain ⟨v,h1,cs,h2,h3⟩:=h
  exact ⟨cs,by rw [←h2];exact h1,RuleAt.keep (fun b hb=>⟨hb.2,fun _=>rfl⟩) _ _ h3,hb⟩
theorem cat_want {w:World} {S:Nat→Prop} {cs:List Value} (h:CatAt w S Sx.want1 cs):∃ a0 ac0 a1 ac1 a2 ac2 a3 ac3 a4 ac4 a5 ac5 a6 ac6,cs = [.slice a0 1 ac0,.slice a1 0 ac1,.slice a2 0 ac2,.slice a3 0 ac3,.slice a4 0 ac4,.slice a5 0 ac5,.slice a6 0 ac6]∧Row w S a0 16 (CourseAt w S) Sx.want1.courses:=by
 obtain ⟨A0,c0,A1,c1,A2,c2,A3,c3,A4,c4,A5,c5,A6,c6,rfl,h0,_⟩:=h
 exact ⟨A0,c0,A1,c1,A2,c2,A3,c3,A4,c4,A5,c5,A6,c6,rfl,h0⟩
theorem cat_none {w:World} {S:Nat→Prop} {cs:List Value} (h:CatAt w S Sx.Cat.none cs):∃ b0 bc0 b1 bc1 b2 bc2 b3 bc3 b4 bc4 b5 bc5 b6 bc6,cs = [.slice b0 0 bc0,.slice b1 0 bc1,.slice b2 0 bc2,.slice b3 0 bc3,.slice b4 0 bc4,.slice b5 0 bc5,.slice b6 0 bc6]∧Row w S b0 16 (CourseAt w S) []:=by
 obtain ⟨A0,c0,A1,c1,A2,c2,A3,c3,A4,c4,A5,c5,A6,c6,rfl,h0,_⟩:=h
 exact ⟨A0,c0,A1,c1,A2,c2,A3,c3,A4,c4,A5,c5,A6,c6,rfl,h0⟩
theorem cat_row {w:World} {S:Nat→Prop} {x:Sx.Cat} {a:Option Addr} {n c:Nat} {r:List Value} (h:CatAt w S x (.slice a n c::r)):Row w S a 16 (CourseAt w S) x.courses:=by
 obtain ⟨A0,c0,A1,c1,A2,c2,A3,c3,A4,c4,A5,c5,A6,c6,he,h0,_⟩:=h
 injection he with e0 _
 injection e0 with e0 _ _
 rw[e0]
 exact h0
theorem rule_two {w:World} {S:Nat→Prop} {cs:List Value} (h:RuleAt w S Sx.two1 cs):∃ A c,cs = [.int .i64 3,.int .i64 0,.string ⟨#[]⟩,.int .i64 2,.int .i64 0,.slice A 2 c]:=by
 unfold Sx.two1 at h
 rw[RuleAt] at h
 obtain ⟨A,c,rfl,_⟩:=h
 exact ⟨A,c,rfl⟩
theorem cat_nil (w:World) (S:Nat→Prop):CatAt w S Sx.Cat.none [.slice none 0 0,.slice none 0 0,.slice none 0 0,.slice none 0 0,.slice none 0 0,.slice none 0 0,.slice none 0 0]:=⟨none,0,none,0,none,0,none,0,none,0,none,0,none,0,rfl,Row.nil _ _ _ _ _,Row.nil _ _ _ _ _,Row.nil _ _ _ _ _,Row.nil _ _ _ _ _,Row.nil _ _ _ _ _,Row.nil _ _ _ _ _,Row.nil _ _ _ _ _⟩
def wantCells:List Value:=[.string ⟨#[77,65,84,72,49]⟩,.int .i64 17,.int .i64 4,.int .i64 0,.int .i64 5,.int .i64 0,.string ⟨#[80,82,69]⟩,.int .i64 5,.int .i64 0,.slice none 0 0,.int .i64 2,.int .i64 0,.string ⟨#[]⟩,.int .i64 0,.int .i64 0,.slice none 0 0]
theorem want_at {w:World} {b:Nat} {t:TypeId} (h:Blk w b t #[.string ⟨#[77,65,84,72,49]⟩,.int .i64 17,.int .i64 4,.int .i64 0,.int .i64 5,.int .i64 0,.string ⟨#[80,82,69]⟩,.int .i64 5,.int .i64 0,.slice none 0 0,.int .i64 2,.int .i64 0,.string ⟨#[]⟩,.int .i64 0,.int .i64 0,.slice none 0 0]) :
  CatAt w (Old w) Sx.want1 [.slice (some ⟨b,0,none⟩) 1 1,.slice none 0 0,.slice none 0 0,.slice none 0 0,.slice none 0 0,.slice none 0 0,.slice none 0 0]:=by
 refine ⟨_,1,none,0,none,0,none,0,none,0,none,0,none,0,rfl,⟨fun k x hk=>?_,by simp [Sx.want1]⟩,Row.nil _ _ _ _ _,Row.nil _ _ _ _ _,Row.nil _ _ _ _ _,Row.nil _ _ _ _ _,Row.nil _ _ _ _ _,Row.nil _ _ _ _ _⟩
 match k,hk with
 | 0,hk=>
  have hk':x=⟨[77,65,84,72,49],17,4,0,.mk 5 0 [80,82,69] 5 0 [],.mk 2 0 [] 0 0 []⟩:=by
   have h2:Sx.want1.courses[0]?=some ⟨[77,65,84,72,49],17,4,0,.mk 5 0 [80,82,69] 5 0 [],.mk 2 0 [] 0 0 []⟩:=rfl
   rw[h2] at hk;injection hk with hk;exact hk.symm
  subst hk'
  refine ⟨b,0,wantCells,rfl,h.lt,⟨_,_,rfl,by simp,rule_leaf _ _ _ _ _ _ _ (by simp),rule_leaf _ _ _ _ _ _ _ (by simp)⟩,fun j v hj=>?_⟩
  rw[h.cell]
  have e:0+0*16+j=j:=by omega
  rw[e]
  unfold wantCells at hj
  simpa using hj
 | k+1,hk=>simp [Sx.want1] at hk
theorem two_at {w:World} {b:Nat} {t:TypeId} (h:Blk w b t #[.int .i64 9,.int .i64 3,.string ⟨#[]⟩,.int .i64 0,.int .i64 0,.slice none 0 0,.int .i64 9,.int .i64 4,.string ⟨#[]⟩,.int .i64 0,.int .i64 0,.slice none 0 0]) :
  RuleAt w (Old w) Sx.two1 [.int .i64 3,.int .i64 0,.string ⟨#[]⟩,.int .i64 2,.int .i64 0,.slice (some ⟨b,0,none⟩) 2 2]:=by
 unfold Sx.two1
 rw[RuleAt]
 refine ⟨_,2,rfl,by simp,by simp,?_⟩
 rw[KidsAt,KidsAt,KidsAt]
 refine ⟨⟨b,0,_,rfl,h.lt,rule_leaf _ _ 9 3 [] 0 0 (by simp),fun j v hj=>?_⟩,⟨b,0,_,rfl,h.lt,rule_leaf _ _ 9 4 [] 0 0 (by simp),fun j v hj=>?_⟩,trivial⟩
 ·rw[h.cell]
  match j,hj with
  | 0,hj=>first | exact hj | simpa [intV,strV] using hj
  | 1,hj=>first | exact hj | simpa [intV,strV] using hj
  | 2,hj=>first | exact hj | simpa [intV,strV] using hj
  | 3,hj=>first | exact hj | simpa [intV,strV] using hj
  | 4,hj=>first | exact hj | simpa [intV,strV] using hj
  | 5,hj=>first | exact hj | simpa [intV,strV] using hj
  | j+6,hj=>simp at hj
 ·rw[h.cell]
  match j,hj with
  | 0,hj=>first | exact hj | simpa [intV,strV] using hj
  | 1,hj=>first | exact hj | simpa [intV,strV] using hj
  | 2,hj=>first | exact hj | simpa [intV,strV] using hj
  | 3,hj=>first | exact hj | simpa [intV,strV] using hj
  | 4,hj=>first | exact hj | simpa [intV,strV] using hj
  | 5,hj=>first | exact hj | simpa [intV,strV] using hj
  | j+6,hj=>simp at hj
set_option maxRecDepth 20000 in
set_option maxHeartbeats 8000000 in
theorem sSane (N:Nat) (w:World) (he:EnvS N w):Calls Tryz.prog 11 #[] w (TruePost w):=by
 have F_B:=Lh (Below.refl w.heap.size w)
 have F_E:=Lh he
 clear he
 go_enter Tryz.func11,Tryz.ntmps11
 go_wp2_with fail
 refine (sParse_ok _ N Sx.want1 Sx.ex1_ok _ F_E.out (by decide)).mono ?_
 rintro e w1 ⟨cs1,rfl,t1,hb⟩
 obtain ⟨a0,ac0,a1,ac1,a2,ac2,a3,ac3,a4,ac4,a5,ac5,a6,ac6,rfl,_⟩:=cat_want t1
 have F_c:=Lh t1
 clear t1
 have G_B:=Lh (F_B.out.trans (hb.mono F_B.out.size))
 have G_E:=Lh (F_E.out.next hb)
 clear F_B F_E
 have F_B:=G_B
 have F_E:=G_E
 clear G_B G_E hb
 go_wp2_with fail
 obtain ⟨P1,hP1⟩:∃ P,P=w1.alloc (.cells #[.slice a0 1 ac0,.slice a1 0 ac1,.slice a2 0 ac2,.slice a3 0 ac3,.slice a4 0 ac4,.slice a5 0 ac5,.slice a6 0 ac6] 30):=⟨_,rfl⟩
 rw[←hP1]
 have hb:Below w1.heap.size w1 P1:=by rw [hP1];exact (Below.refl _ _).alloc (Nat.le_refl _) _
 have p1:Blk P1 w1.heap.size 30 #[.slice a0 1 ac0,.slice a1 0 ac1,.slice a2 0 ac2,.slice a3 0 ac3,.slice a4 0 ac4,.slice a5 0 ac5,.slice a6 0 ac6]:=by rw [hP1];exact Blk.new _ _ _
 clear hP1
 have G_B:=Lh (F_B.out.trans (hb.mono F_B.out.size))
 have G_E:=Lh (F_E.out.next hb)
 have G_c:=Lh (CatAt.keep (old_keep hb) F_c.out)
 clear F_B F_E F_c
 have F_B:=G_B
 have F_E:=G_E
 have F_c:=G_c
 clear G_B G_E G_c hb
 have F_p:=Lh p1
 clear p1
 refine (sParse_ok _ N Sx.Cat.none Sx.ex2_ok _ F_E.out (by decide)).mono ?_
 rintro e w2 ⟨cs2,rfl,t2,hb⟩
 obtain ⟨b0,bc0,b1,bc1,b2,bc2,b3,bc3,b4,bc4,b5,bc5,b6,bc6,rfl,_⟩:=cat_none t2
 have F_n:=Lh t2
 clear t2
 have G_B:=Lh (F_B.out.trans (hb.mono F_B.out.size))
 have G_E:=Lh (F_E.out.next hb)
 have G_c:=Lh (CatAt.keep (old_keep hb) F_c.out)
 have G_p:=Lh (F_p.out.below hb F_p.out.lt)
 clear F_B F_E F_c F_p
 have F_B:=G_B
 have F_E:=G_E
 have F_c:=G_c
 have F_p:=G_p
 clear G_B G_E G_c G_p hb
 go_wp2_with fail
 obtain ⟨P2,hP2⟩:∃ P,P=w2.alloc (.cells #[.slice b0 0 bc0,.slice b1 0 bc1,.slice b2 0 bc2,.slice b3 0 bc3,.slice b4 0 bc4,.slice b5 0 bc5,.slice b6 0 bc6] 30):=⟨_,rfl⟩
 rw[←hP2]
 have hb:Below w2.heap.size w2 P2:=by rw [hP2];exact (Below.refl _ _).alloc (Nat.le_refl _) _
 have p1:Blk P2 w2.heap.size 30 #[.slice b0 0 bc0,.slice b1 0 bc1,.slice b2 0 bc2,.slice b3 0 bc3,.slice b4 0 bc4,.slice b5 0 bc5,.slice b6 0 bc6]:=by rw [hP2];exact Blk.new _ _ _
 clear hP2
 have G_B:=Lh (F_B.out.trans (hb.mono F_B.out.size))
 have G_E:=Lh (F_E.out.next hb)
 have G_c:=Lh (CatAt.keep (old_keep hb) F_c.out)
 have G_p:=Lh (F_p.out.below hb F_p.out.lt)
 have G_n:=Lh (CatAt.keep (old_keep hb) F_n.out)
 clear F_B F_E F_c F_p F_n
 have F_B:=G_B
 have F_E:=G_E
 have F_c:=G_c
 have F_p:=G_p
 have F_n:=G_n
 clear G_B G_E G_c G_p G_n hb
 have F_q:=Lh p1
 clear p1
 refine (sParse_bad _ N 9 100 Sx.ex3_bad _ F_E.out (by decide)).mono ?_
 rintro e w3 ⟨rfl,hb⟩
 have G_B:=Lh (F_B.out.trans (hb.mono F_B.out.size))
 have G_E:=Lh (F_E.out.next hb)
 have G_c:=Lh (CatAt.keep (old_keep hb) F_c.out)
 have G_p:=Lh (F_p.out.below hb F_p.out.lt)
 have G_n:=Lh (CatAt.keep (old_keep hb) F_n.out)
 have G_q:=Lh (F_q.out.below hb F_q.out.lt)
 clear F_B F_E F_c F_p F_n F_q
 have F_B:=G_B
 have F_E:=G_E
 have F_c:=G_c
 have F_p:=G_p
 have F_n:=G_n
 have F_q:=G_q
 clear G_B G_E G_c G_p G_n G_q hb
 go_wp2_with fail
 obtain ⟨P3,hP3⟩:∃ P,P=w3.alloc (.cells #[.slice none 0 0,.slice none 0 0,.slice none 0 0,.slice none 0 0,.slice none 0 0,.slice none 0 0,.slice none 0 0] 30):=⟨_,rfl⟩
 rw[←hP3]
 have hb:Below w3.heap.size w3 P3:=by rw [hP3];exact (Below.refl _ _).alloc (Nat.le_refl _) _
 clear hP3
 have G_B:=Lh (F_B.out.trans (hb.mono F_B.out.size))
 have G_E:=Lh (F_E.out.next hb)
 have G_c:=Lh (CatAt.keep (old_keep hb) F_c.out)
 have G_p:=Lh (F_p.out.below hb F_p.out.lt)
 have G_n:=Lh (CatAt.keep (old_keep hb) F_n.out)
 have G_q:=Lh (F_q.out.below hb F_q.out.lt)
 clear F_B F_E F_c F_p F_n F_q
 have F_B:=G_B
 have F_E:=G_E
 have F_c:=G_c
 have F_p:=G_p
 have F_n:=G_n
 have F_q:=G_q
 clear G_B G_E G_c G_p G_n G_q hb
 refine (sParse_bad _ N 18 100 Sx.ex4_bad _ F_E.out (by decide)).mono ?_
 rintro e w4 ⟨rfl,hb⟩
 have G_B:=Lh (F_B.out.trans (hb.mono F_B.out.size))
 have G_E:=Lh (F_E.out.next hb)
 have G_c:=Lh (CatAt.keep (old_keep hb) F_c.out)
 have G_p:=Lh (F_p.out.below hb F_p.out.lt)
 have G_n:=Lh (CatAt.keep (old_keep hb) F_n.out)
 have G_q:=Lh (F_q.out.below hb F_q.out.lt)
 clear F_B F_E F_c F_p F_n F_q
 have F_B:=G_B
 have F_E:=G_E
 have F_c:=G_c
 have F_p:=G_p
 have F_n:=G_n
 have F_q:=G_q
 clear G_B G_E G_c G_p G_n G_q hb
 go_wp2_with fail
 obtain ⟨P4,hP4⟩:∃ P,P=w4.alloc (.cells #[.slice none 0 0,.slice none 0 0,.slice none 0 0,.slice none 0 0,.slice none 0 0,.slice none 0 0,.slice none 0 0] 30):=⟨_,rfl⟩
 rw[←hP4]
 have hb:Below w4.heap.size w4 P4:=by rw [hP4];exact (Below.refl _ _).alloc (Nat.le_refl _) _
 clear hP4
 have G_B:=Lh (F_B.out.trans (hb.mono F_B.out.size))
 have G_E:=Lh (F_E.out.next hb)
 have G_c:=Lh (CatAt.keep (old_keep hb) F_c.out)
 have G_p:=Lh (F_p.out.below hb F_p.out.lt)
 have G_n:=Lh (CatAt.keep (old_keep hb) F_n.out)
 have G_q:=Lh (F_q.out.below hb F_q.out.lt)
 clear F_B F_E F_c F_p F_n F_q
 have F_B:=G_B
 have F_E:=G_E
 have F_c:=G_c
 have F_p:=G_p
 have F_n:=G_n
 have F_q:=G_q
 clear G_B G_E G_c G_p G_n G_q hb
 refine (sRule_ok _ N Sx.two1 Sx.ex5_ok _ F_E.out (by decide)).mono ?_
 rintro e w5 ⟨cs5,rfl,t5,hb⟩
 obtain ⟨rA,rc,rfl⟩:=rule_two t5
 have F_r:=Lh t5
 clear t5
 have G_B:=Lh (F_B.out.trans (hb.mono F_B.out.size))
 have G_E:=Lh (F_E.out.next hb)
 have G_c:=Lh (CatAt.keep (old_keep hb) F_c.out)
 have G_p:=Lh (F_p.out.below hb F_p.out.lt)
 have G_n:=Lh (CatAt.keep (old_keep hb) F_n.out)
 have G_q:=Lh (F_q.out.below hb F_q.out.lt)
 clear F_B F_E F_c F_p F_n F_q
 have F_B:=G_B
 have F_E:=G_E
 have F_c:=G_c
 have F_p:=G_p
 have F_n:=G_n
 have F_q:=G_q
 clear G_B G_E G_c G_p G_n G_q hb
 go_wp2_with fail
 obtain ⟨P5,hP5⟩:∃ P,P=w5.alloc (.cells #[.int .i64 3,.int .i64 0,.string ⟨#[]⟩,.int .i64 2,.int .i64 0,.slice rA 2 rc] 38):=⟨_,rfl⟩
 rw[←hP5]
 have hb:Below w5.heap.size w5 P5:=by rw [hP5];exact (Below.refl _ _).alloc (Nat.le_refl _) _
 have p1:Blk P5 w5.heap.size 38 #[.int .i64 3,.int .i64 0,.string ⟨#[]⟩,.int .i64 2,.int .i64 0,.slice rA 2 rc]:=by rw [hP5];exact Blk.new _ _ _
 clear hP5
 have G_B:=Lh (F_B.out.trans (hb.mono F_B.out.size))
 have G_E:=Lh (F_E.out.next hb)
 have G_c:=Lh (CatAt.keep (old_keep hb) F_c.out)
 have G_p:=Lh (F_p.out.below hb F_p.out.lt)
 have G_n:=Lh (CatAt.keep (old_keep hb) F_n.out)
 have G_q:=Lh (F_q.out.below hb F_q.out.lt)
 have G_r:=Lh (RuleAt.old F_r.out hb)
 clear F_B F_E F_c F_p F_n F_q F_r
 have F_B:=G_B
 have F_E:=G_E
 have F_c:=G_c
 have F_p:=G_p
 have F_n:=G_n
 have F_q:=G_q
 have F_r:=G_r
 clear G_B G_E G_c G_p G_n G_q G_r hb
 have F_s:=Lh p1
 clear p1
 refine (sPrintRule N Sx.allR [.int .i64 1,.int .i64 0,.string ⟨#[]⟩,.int .i64 0,.int .i64 0,.slice none 0 0] Sx.exAll _ F_E.out (rule_leaf _ _ 1 0 [] 0 0 (by simp)) Sx.exAll_ok (by decide) Sx.exAll_text (by decide)).mono ?_
 rintro e w6 ⟨rfl,hb⟩
 rw[show Lx.bs Sx.exAll=⟨#[97,108,108,32,123,32,125]⟩ from rfl]
 have G_B:=Lh (F_B.out.trans (hb.mono F_B.out.size))
 have G_E:=Lh (F_E.out.next hb)
 have G_c:=Lh (CatAt.keep (old_keep hb) F_c.out)
 have G_p:=Lh (F_p.out.below hb F_p.out.lt)
 have G_n:=Lh (CatAt.keep (old_keep hb) F_n.out)
 have G_q:=Lh (F_q.out.below hb F_q.out.lt)
 have G_r:=Lh (RuleAt.old F_r.out hb)
 have G_s:=Lh (F_s.out.below hb F_s.out.lt)
 clear F_B F_E F_c F_p F_n F_q F_r F_s
 have F_B:=G_B
 have F_E:=G_E
 have F_c:=G_c
 have F_p:=G_p
 have F_n:=G_n
 have F_q:=G_q
 have F_r:=G_r
 have F_s:=G_s
 clear G_B G_E G_c G_p G_n G_q G_r G_s hb
 go_wp2_with fail
 refine (sPrintRuleBad Sx.Rule.zero [.int .i64 0,.int .i64 0,.string ⟨#[]⟩,.int .i64 0,.int .i64 0,.slice none 0 0] _ (rule_leaf _ _ 0 0 [] 0 0 (by simp)) Sx.exZero_bad).mono ?_
 rintro e w7 ⟨rfl,hb⟩
 have G_B:=Lh (F_B.out.trans (hb.mono F_B.out.size))
 have G_E:=Lh (F_E.out.next hb)
 have G_c:=Lh (CatAt.keep (old_keep hb) F_c.out)
 have G_p:=Lh (F_p.out.below hb F_p.out.lt)
 have G_n:=Lh (CatAt.keep (old_keep hb) F_n.out)
 have G_q:=Lh (F_q.out.below hb F_q.out.lt)
 have G_r:=Lh (RuleAt.old F_r.out hb)
 have G_s:=Lh (F_s.out.below hb F_s.out.lt)
 clear F_B F_E F_c F_p F_n F_q F_r F_s
 have F_B:=G_B
 have F_E:=G_E
 have F_c:=G_c
 have F_p:=G_p
 have F_n:=G_n
 have F_q:=G_q
 have F_r:=G_r
 have F_s:=G_s
 clear G_B G_E G_c G_p G_n G_q G_r G_s hb
 have p0:=F_p.out.cell 0;have p1:=F_p.out.cell 1;have p2:=F_p.out.cell 2;have p3:=F_p.out.cell 3;have p4:=F_p.out.cell 4;have p5:=F_p.out.cell 5;have p6:=F_p.out.cell 6
 simp at p0 p1 p2 p3 p4 p5 p6
 have pz:=F_p.out.lt
 go_wp2_with fail
 refine (sPrint N Sx.want1 _ Sx.exOut _ F_E.out F_c.out Sx.want1_ok (by decide) Sx.want1_text (by decide)).mono ?_
 rintro e w8 ⟨rfl,hb⟩
 rw[show Lx.bs Sx.exOut=⟨#[99,111,117,114,115,101,32,49,55,32,77,65,84,72,49,32,52,32,123,32,110,101,101,100,32,112,97,115,115,32,80,82,69,32,53,32,59,32,125]⟩ from rfl]
 clear p0 p1 p2 p3 p4 p5 p6 pz
 have G_B:=Lh (F_B.out.trans (hb.mono F_B.out.size))
 have G_E:=Lh (F_E.out.next hb)
 have G_c:=Lh (CatAt.keep (old_keep hb) F_c.out)
 have G_p:=Lh (F_p.out.below hb F_p.out.lt)
 have G_n:=Lh (CatAt.keep (old_keep hb) F_n.out)
 have G_q:=Lh (F_q.out.below hb F_q.out.lt)
 have G_r:=Lh (RuleAt.old F_r.out hb)
 have G_s:=Lh (F_s.out.below hb F_s.out.lt)
 clear F_B F_E F_c F_p F_n F_q F_r F_s
 have F_B:=G_B
 have F_E:=G_E
 have F_c:=G_c
 have F_p:=G_p
 have F_n:=G_n
 have F_q:=G_q
 have F_r:=G_r
 have F_s:=G_s
 clear G_B G_E G_c G_p G_n G_q G_r G_s hb
 go_upto_region 11 with fail
 obtain ⟨P8,hP8⟩:∃ P,P=(((w8.alloc (.cells #[.string ⟨#[77,65,84,72,49]⟩,.int .i64 17,.int .i64 4,.int .i64 0,.int .i64 5,.int .i64 0,.string ⟨#[80,82,69]⟩,.int .i64 5,.int .i64 0,.slice none 0 0,.int .i64 2,.int .i64 0,.string ⟨#[]⟩,.int .i64 0,.int .i64 0,.slice none 0 0] 58)).alloc (.cells #[.slice (some ⟨w8.heap.size,0,none⟩) 1 1,.slice none 0 0,.slice none 0 0,.slice none 0 0,.slice none 0 0,.slice none 0 0,.slice none 0 0] 30)).alloc (.cells #[.int .i64 9,.int .i64 3,.string ⟨#[]⟩,.int .i64 0,.int .i64 0,.slice none 0 0,.int .i64 9,.int .i64 4,.string ⟨#[]⟩,.int .i64 0,.int .i64 0,.slice none 0 0] 38)).alloc (.cells #[.int .i64 3,.int .i64 0,.string ⟨#[]⟩,.int .i64 2,.int .i64 0,.slice (some ⟨w8.heap.size+1+1,0,none⟩) 2 2] 38):=⟨_,rfl⟩
 rw[←hP8]
 have hb:Below w8.heap.size w8 P8:=by rw [hP8];exact ((((Below.refl _ _).alloc (Nat.le_refl _) _).alloc (by simp) _).alloc (by simp;omega) _).alloc (by simp;omega) _
 have q1:Blk P8 w8.heap.size 58 #[.string ⟨#[77,65,84,72,49]⟩,.int .i64 17,.int .i64 4,.int .i64 0,.int .i64 5,.int .i64 0,.string ⟨#[80,82,69]⟩,.int .i64 5,.int .i64 0,.slice none 0 0,.int .i64 2,.int .i64 0,.string ⟨#[]⟩,.int .i64 0,.int .i64 0,.slice none 0 0]:=by rw [hP8];exact (((Blk.new w8 _ _).alloc _).alloc _).alloc _
 have q2:Blk P8 (w8.heap.size+1) 30 #[.slice (some ⟨w8.heap.size,0,none⟩) 1 1,.slice none 0 0,.slice none 0 0,.slice none 0 0,.slice none 0 0,.slice none 0 0,.slice none 0 0]:=by rw [hP8];exact ((Blk.new_at _ _ (by simp)).alloc _).alloc _
 have q3:Blk P8 (w8.heap.size+1+1) 38 #[.int .i64 9,.int .i64 3,.string ⟨#[]⟩,.int .i64 0,.int .i64 0,.slice none 0 0,.int .i64 9,.int .i64 4,.string ⟨#[]⟩,.int .i64 0,.int .i64 0,.slice none 0 0]:=by rw [hP8];exact (Blk.new_at _ _ (by simp)).alloc _
 have q4:Blk P8 (w8.heap.size+1+1+1) 38 #[.int .i64 3,.int .i64 0,.string ⟨#[]⟩,.int .i64 2,.int .i64 0,.slice (some ⟨w8.heap.size+1+1,0,none⟩) 2 2]:=by rw [hP8];exact Blk.new_at _ _ (by simp)
 clear hP8
 have G_B:=Lh (F_B.out.trans (hb.mono F_B.out.size))
 have G_E:=Lh (F_E.out.next hb)
 have G_c:=Lh (CatAt.keep (old_keep hb) F_c.out)
 have G_p:=Lh (F_p.out.below hb F_p.out.lt)
 have G_n:=Lh (CatAt.keep (old_keep hb) F_n.out)
 have G_q:=Lh (F_q.out.below hb F_q.out.lt)
 have G_r:=Lh (RuleAt.old F_r.out hb)
 have G_s:=Lh (F_s.out.below hb F_s.out.lt)
 clear F_B F_E F_c F_p F_n F_q F_r F_s
 have F_B:=G_B
 have F_E:=G_E
 have F_c:=G_c
 have F_p:=G_p
 have F_n:=G_n
 have F_q:=G_q
 have F_r:=G_r
 have F_s:=G_s
 clear G_B G_E G_c G_p G_n G_q G_r G_s hb
 have F_d:=Lh (want_at q1)
 have F_u:=Lh (two_at q3)
 have F_x:=Lh q2
 have F_y:=Lh q4
 clear q1 q2 q3 q4
 have p0:=F_p.out.cell 0;have p1:=F_p.out.cell 1;have p2:=F_p.out.cell 2;have p3:=F_p.out.cell 3;have p4:=F_p.out.cell 4;have p5:=F_p.out.cell 5;have p6:=F_p.out.cell 6
 simp at p0 p1 p2 p3 p4 p5 p6
 have pz:=F_p.out.lt
 have x0:=F_x.out.cell 0;have x1:=F_x.out.cell 1;have x2:=F_x.out.cell 2;have x3:=F_x.out.cell 3;have x4:=F_x.out.cell 4;have x5:=F_x.out.cell 5;have x6:=F_x.out.cell 6
 simp at x0 x1 x2 x3 x4 x5 x6
 have xz:=F_x.out.lt
 go_wp2_with fail
 clear p0 p1 p2 p3 p4 p5 p6 pz
 clear x0 x1 x2 x3 x4 x5 x6 xz
 refine (rSame Sx.want1 Sx.want1 P8 _ _ F_c.out F_d.out).mono ?_
 rintro e w9 ⟨rfl,hb⟩
 rw[decide_eq_true (rfl:Sx.want1=Sx.want1)]
 have G_B:=Lh (F_B.out.trans (hb.mono F_B.out.size))
 have G_E:=Lh (F_E.out.next hb)
 have G_c:=Lh (CatAt.keep (old_keep hb) F_c.out)
 have G_p:=Lh (F_p.out.below hb F_p.out.lt)
 have G_n:=Lh (CatAt.keep (old_keep hb) F_n.out)
 have G_q:=Lh (F_q.out.below hb F_q.out.lt)
 have G_r:=Lh (RuleAt.old F_r.out hb)
 have G_s:=Lh (F_s.out.below hb F_s.out.lt)
 have G_d:=Lh (CatAt.keep (old_keep hb) F_d.out)
 have G_u:=Lh (RuleAt.old F_u.out hb)
 have G_x:=Lh (F_x.out.below hb F_x.out.lt)
 have G_y:=Lh (F_y.out.below hb F_y.out.lt)
 clear F_B F_E F_c F_p F_n F_q F_r F_s F_d F_u F_x F_y
 have F_B:=G_B
 have F_E:=G_E
 have F_c:=G_c
 have F_p:=G_p
 have F_n:=G_n
 have F_q:=G_q
 have F_r:=G_r
 have F_s:=G_s
 have F_d:=G_d
 have F_u:=G_u
 have F_x:=G_x
 have F_y:=G_y
 clear G_B G_E G_c G_p G_n G_q G_r G_s G_d G_u G_x G_y hb
 have q0:=F_q.out.cell 0;have q1:=F_q.out.cell 1;have q2:=F_q.out.cell 2;have q3:=F_q.out.cell 3;have q4:=F_q.out.cell 4;have q5:=F_q.out.cell 5;have q6:=F_q.out.cell 6
 simp at q0 q1 q2 q3 q4 q5 q6
 have qz:=F_q.out.lt
 go_wp2_with fail
 clear q0 q1 q2 q3 q4 q5 q6 qz
 refine (rSame Sx.Cat.none Sx.Cat.none w9 _ _ F_n.out (cat_nil w9 _)).mono ?_
 rintro e w10 ⟨rfl,hb⟩
 rw[decide_eq_true (rfl:Sx.Cat.none=Sx.Cat.none)]
 have G_B:=Lh (F_B.out.trans (hb.mono F_B.out.size))
 have G_E:=Lh (F_E.out.next hb)
 have G_c:=Lh (CatAt.keep (old_keep hb) F_c.out)
 have G_p:=Lh (F_p.out.below hb F_p.out.lt)
 have G_n:=Lh (CatAt.keep (old_keep hb) F_n.out)
 have G_q:=Lh (F_q.out.below hb F_q.out.lt)
 have G_r:=Lh (RuleAt.old F_r.out hb)
 have G_s:=Lh (F_s.out.below hb F_s.out.lt)
 have G_d:=Lh (CatAt.keep (old_keep hb) F_d.out)
 have G_u:=Lh (RuleAt.old F_u.out hb)
 have G_x:=Lh (F_x.out.below hb F_x.out.lt)
 have G_y:=Lh (F_y.out.below hb F_y.out.lt)
 clear F_B F_E F_c F_p F_n F_q F_r F_s F_d F_u F_x F_y
 have F_B:=G_B
 have F_E:=G_E
 have F_c:=G_c
 have F_p:=G_p
 have F_n:=G_n
 have F_q:=G_q
 have F_r:=G_r
 have F_s:=G_s
 have F_d:=G_d
 have F_u:=G_u
 have F_x:=G_x
 have F_y:=G_y
 clear G_B G_E G_c G_p G_n G_q G_r G_s G_d G_u G_x G_y hb
 have s0:=F_s.out.cell 0;have s1:=F_s.out.cell 1;have s2:=F_s.out.cell 2;have s3:=F_s.out.cell 3;have s4:=F_s.out.cell 4;have s5:=F_s.out.cell 5
 simp at s0 s1 s2 s3 s4 s5
 have sz:=F_s.out.lt
 have y0:=F_y.out.cell 0;have y1:=F_y.out.cell 1;have y2:=F_y.out.cell 2;have y3:=F_y.out.cell 3;have y4:=F_y.out.cell 4;have y5:=F_y.out.cell 5
 simp at y0 y1 y2 y3 y4 y5
 have yz:=F_y.out.lt
 go_wp2_with fail
 clear s0 s1 s2 s3 s4 s5 sz
 clear y0 y1 y2 y3 y4 y5 yz
 refine (rSameRule _ Sx.two1 Sx.two1 (Nat.lt_succ_self _) w10 _ _ F_r.out F_u.out).mono ?_
 rintro e w11 ⟨rfl,hb⟩
 rw[(Sx.ruleEq_iff Sx.two1 Sx.two1).2 rfl]
 have G_B:=Lh (F_B.out.trans (hb.mono F_B.out.size))
 have G_E:=Lh (F_E.out.next hb)
 have G_c:=Lh (CatAt.keep (old_keep hb) F_c.out)
 have G_p:=Lh (F_p.out.below hb F_p.out.lt)
 have G_n:=Lh (CatAt.keep (old_keep hb) F_n.out)
 have G_q:=Lh (F_q.out.below hb F_q.out.lt)
 have G_r:=Lh (RuleAt.old F_r.out hb)
 have G_s:=Lh (F_s.out.below hb F_s.out.lt)
 have G_d:=Lh (CatAt.keep (old_keep hb) F_d.out)
 have G_u:=Lh (RuleAt.old F_u.out hb)
 have G_x:=Lh (F_x.out.below hb F_x.out.lt)
 have G_y:=Lh (F_y.out.below hb F_y.out.lt)
 clear F_B F_E F_c F_p F_n F_q F_r F_s F_d F_u F_x F_y
 have F_B:=G_B
 have F_E:=G_E
 have F_c:=G_c
 have F_p:=G_p
 have F_n:=G_n
 have F_q:=G_q
 have F_r:=G_r
 have F_s:=G_s
 have F_d:=G_d
 have F_u:=G_u
 have F_x:=G_x
 have F_y:=G_y
 clear G_B G_E G_c G_p G_n G_q G_r G_s G_d G_u G_x G_y hb
 have p0:=F_p.out.cell 0;have p1:=F_p.out.cell 1;have p2:=F_p.out.cell 2;have p3:=F_p.out.cell 3;have p4:=F_p.out.cell 4;have p5:=F_p.out.cell 5;have p6:=F_p.out.cell 6
 simp at p0 p1 p2 p3 p4 p5 p6
 have pz:=F_p.out.lt
 have x0:=F_x.out.cell 0;have x1:=F_x.out.cell 1;have x2:=F_x.out.cell 2;have x3:=F_x.out.cell 3;have x4:=F_x.out.cell 4;have x5:=F_x.out.cell 5;have x6:=F_x.out.cell 6
 simp at x0 x1 x2 x3 x4 x5 x6
 have xz:=F_x.out.lt
 go_wp2_with fail
 clear p0 p1 p2 p3 p4 p5 p6 pz
 clear x0 x1 x2 x3 x4 x5 x6 xz
 have hrow:=cat_row F_c.out
 have hrow2:=cat_row F_d.out
 refine (sSameC Sx.want1.courses Sx.want1.courses _ 1 _ _ _ _ _ _ _ _ _ _ _ _ _ _ 1 _ _ _ _ _ _ _ _ _ _ _ _ _ rfl rfl w11 hrow hrow2).mono ?_
 rintro e w12 ⟨rfl,hb⟩
 rw[decide_eq_true (rfl:Sx.want1.courses=Sx.want1.courses)]
 clear hrow hrow2
 have G_B:=Lh (F_B.out.trans (hb.mono F_B.out.size))
 have G_E:=Lh (F_E.out.next hb)
 have G_c:=Lh (CatAt.keep (old_keep hb) F_c.out)
 have G_p:=Lh (F_p.out.below hb F_p.out.lt)
 have G_n:=Lh (CatAt.keep (old_keep hb) F_n.out)
 have G_q:=Lh (F_q.out.below hb F_q.out.lt)
 have G_r:=Lh (RuleAt.old F_r.out hb)
 have G_s:=Lh (F_s.out.below hb F_s.out.lt)
 have G_d:=Lh (CatAt.keep (old_keep hb) F_d.out)
 have G_u:=Lh (RuleAt.old F_u.out hb)
 have G_x:=Lh (F_x.out.below hb F_x.out.lt)
 have G_y:=Lh (F_y.out.below hb F_y.out.lt)
 clear F_B F_E F_c F_p F_n F_q F_r F_s F_d F_u F_x F_y
 have F_B:=G_B
 have F_E:=G_E
 have F_c:=G_c
 have F_p:=G_p
 have F_n:=G_n
 have F_q:=G_q
 have F_r:=G_r
 have F_s:=G_s
 have F_d:=G_d
 have F_u:=G_u
 have F_x:=G_x
 have F_y:=G_y
 clear G_B G_E G_c G_p G_n G_q G_r G_s G_d G_u G_x G_y hb
 have p0:=F_p.out.cell 0;have p1:=F_p.out.cell 1;have p2:=F_p.out.cell 2;have p3:=F_p.out.cell 3;have p4:=F_p.out.cell 4;have p5:=F_p.out.cell 5;have p6:=F_p.out.cell 6
 simp at p0 p1 p2 p3 p4 p5 p6
 have pz:=F_p.out.lt
 have q0:=F_q.out.cell 0;have q1:=F_q.out.cell 1;have q2:=F_q.out.cell 2;have q3:=F_q.out.cell 3;have q4:=F_q.out.cell 4;have q5:=F_q.out.cell 5;have q6:=F_q.out.cell 6
 simp at q0 q1 q2 q3 q4 q5 q6
 have qz:=F_q.out.lt
 go_wp2_with fail
 clear p0 p1 p2 p3 p4 p5 p6 pz
 clear q0 q1 q2 q3 q4 q5 q6 qz
 have hrow:=cat_row F_c.out
 have hrow2:=cat_row F_n.out
 refine (sSameC Sx.want1.courses [] _ 1 _ _ _ _ _ _ _ _ _ _ _ _ _ _ 0 _ _ _ _ _ _ _ _ _ _ _ _ _ rfl rfl w12 hrow hrow2).mono ?_
 rintro e w13 ⟨rfl,hb⟩
 rw[decide_eq_false (by decide:¬ Sx.want1.courses = [])]
 clear hrow hrow2
 have G_B:=Lh (F_B.out.trans (hb.mono F_B.out.size))
 have G_E:=Lh (F_E.out.next hb)
 have G_c:=Lh (CatAt.keep (old_keep hb) F_c.out)
 have G_p:=Lh (F_p.out.below hb F_p.out.lt)
 have G_n:=Lh (CatAt.keep (old_keep hb) F_n.out)
 have G_q:=Lh (F_q.out.below hb F_q.out.lt)
 have G_r:=Lh (RuleAt.old F_r.out hb)
 have G_s:=Lh (F_s.out.below hb F_s.out.lt)
 have G_d:=Lh (CatAt.keep (old_keep hb) F_d.out)
 have G_u:=Lh (RuleAt.old F_u.out hb)
 have G_x:=Lh (F_x.out.below hb F_x.out.lt)
 have G_y:=Lh (F_y.out.below hb F_y.out.lt)
 clear F_B F_E F_c F_p F_n F_q F_r F_s F_d F_u F_x F_y
 have F_B:=G_B
 have F_E:=G_E
 have F_c:=G_c
 have F_p:=G_p
 have F_n:=G_n
 have F_q:=G_q
 have F_r:=G_r
 have F_s:=G_s
 have F_d:=G_d
 have F_u:=G_u
 have F_x:=G_x
 have F_y:=G_y
 clear G_B G_E G_c G_p G_n G_q G_r G_s G_d G_u G_x G_y hb
 go_wp2_with fail
 go_ret
 exact ⟨ret_bool rfl,F_B.out⟩
end Go.Proofs.YtjonaidancomgaaGreatDoor

namespace Go.Proofs.YtjonaidancomgaaGreatDoor
open Go.RowKit

def GS (lo base:Nat) (v:Value) (w:World) (b:Nat):Prop:=(b < lo∨base≤b)∧b < w.heap.size∧v.ownBlock≠some b
structure GRow {α : Type} (lo base : Nat) (T : TypeId) (sz : Nat) (P : World → (Nat → Prop) → α → List Value → Prop) (xs : List α) (css : List (List Value)) (v : Value) (w : World) : Prop where
 own:w.ownsRow base T sz v xs.length css.flatten
 len:css.length=xs.length
 el:∀ (i:Nat) x cs,xs[i]?=some x→css[i]?=some cs→P w (GS lo base v w) x cs
def KeepP {α:Type} (P:World→(Nat→Prop)→α→List Value→Prop):Prop:=
 ∀ (w w':World) (S S':Nat→Prop) (x:α) (cs:List Value),(∀ b,S b→S' b∧∀ i,w'.cell? ⟨b,i,none⟩=w.cell? ⟨b,i,none⟩)→P w S x cs→P w' S' x cs
section
variable {α : Type} {lo base sz : Nat} {T : TypeId} {P : World → (Nat → Prop) → α → List Value → Prop} {xs : List α} {css : List (List Value)} {v : Value} {w w' : World}
theorem GRow.start:GRow lo base T sz P [] [] (.slice none 0 0) w:=⟨World.ownsRow_nil _ _ _ _,rfl,fun i x cs h _=>by simp at h⟩
theorem GRow.made (hb:base≤w.heap.size):GRow lo base T sz P [] [] (.slice (some ⟨w.heap.size,0,none⟩) 0 0) (w.alloc (.cells #[] T)):=
 ⟨World.ownsRow_made w #[] 0 hb (Nat.zero_le _) (by simp),rfl,fun i x cs h _=>by simp at h⟩
theorem GRow.keep (hK:KeepP P) (h:GRow lo base T sz P xs css v w) (hs:w.heap.size≤w'.heap.size) (hk:∀ k,k < w.heap.size→k < lo∨base≤k→w'.heap[k]?=w.heap[k]?):GRow lo base T sz P xs css v w':=by
 refine ⟨?_,h.len,fun i x cs h1 h2=>hK w w' _ _ x cs (fun b hb=>⟨⟨hb.1,Nat.lt_of_lt_of_le hb.2.1 hs,hb.2.2⟩,fun j=>World.cell?_of_block (a:=⟨b,j,none⟩) (hk b hb.2.1 hb.1)⟩) (h.el i x cs h1 h2)⟩
 have hge:=fun z (hz:v.ownBlock=some z)=>own_ge h.own hz
 have hlt:=fun z (hz:v.ownBlock=some z)=>own_lt h.own hz
 obtain ⟨p1,p2⟩:=h.own
 refine ⟨p1,?_⟩
 rcases p2 with p2 | ⟨z,cap,cur,hv,hg,hh,r⟩
 ·exact .inl p2
 ·have hz:v.ownBlock=some z:=by rw [hv];rfl
  exact .inr ⟨z,cap,cur,hv,hg,(hk z (hlt z hz) (.inr (hge z hz))).trans hh,r⟩
theorem GRow.next (hK:KeepP P) (h:GRow lo base T sz P xs css v w) (hb:Below w.heap.size w w'):GRow lo base T sz P xs css v w':=
 h.keep hK hb.size fun k hk _=>hb.block k hk
theorem GRow.grow {x:α} {cs:List Value} {v':Value} (hK:KeepP P) (h:GRow lo base T sz P xs css v w) (hx:P w (GS lo base v w) x cs) (hown:w'.ownsRow base T sz v' (xs.length+1) (css.flatten++cs)) (hg:w.grownBy w' v.ownBlock) (hat:v'.ownBlock=v.ownBlock∨v'.ownBlock=some w.heap.size) :
  GRow lo base T sz P (xs++[x]) (css++[cs]) v' w':=by
 have hS:∀ b,GS lo base v w b→GS lo base v' w' b∧∀ i,w'.cell? ⟨b,i,none⟩=w.cell? ⟨b,i,none⟩:=fun b hb=>by
  refine ⟨⟨hb.1,Nat.lt_of_lt_of_le hb.2.1 hg.size,fun e=>?_⟩,fun j=>World.cell?_of_block (a:=⟨b,j,none⟩) (hg.block b hb.2.1 (fun e=>hb.2.2 e.symm))⟩
  rcases hat with q | q
  ·exact hb.2.2 (q.symm.trans e)
  ·rw[q] at e
   have:=hb.2.1
   injection e with e
   omega
 refine ⟨by simpa using hown,by simp [h.len],fun i y ds h1 h2=>?_⟩
 by_cases hi:i < xs.length
 ·rw[List.getElem?_append_left hi] at h1
  rw[List.getElem?_append_left (by rw [h.len];exact hi)] at h2
  exact hK w w' _ _ y ds hS (h.el i y ds h1 h2)
 ·have h3:=(List.getElem?_eq_some_iff.1 h1).1
  have h4:i=xs.length:=by simp at h3;omega
  subst h4
  have h5:css.length=xs.length:=h.len
  rw[←h5] at h2
  simp at h1 h2
  subst h1;subst h2
  exact hK w w' _ _ x cs hS hx
theorem GRow.row (hK:KeepP P) (hsz:∀ w S x cs,P w S x cs→cs.length=sz) (h:GRow lo base T sz P xs css v w) (hl:xs.length≤140737488351232) :
  ∃ A c,v = .slice A xs.length c∧Row w (fun b=>(b < lo∨base≤b)∧b < w.heap.size) A sz (P w fun b=>(b < lo∨base≤b)∧b < w.heap.size) xs:=
 own_row (P:=P w fun b=>(b < lo∨base≤b)∧b < w.heap.size) (S:=fun b=>(b < lo∨base≤b)∧b < w.heap.size) h.own h.len rfl (fun cs hcs=>by
  obtain ⟨i,hi⟩:=List.mem_iff_getElem?.1 hcs
  have hl:=(List.getElem?_eq_some_iff.1 hi).1
  have:=h.len
  exact hsz _ _ _ cs (h.el i (xs[i]'(by omega)) cs (List.getElem?_eq_getElem _) hi)) (fun i x cs h1 h2=>hK w w _ _ x cs (fun b hb=>⟨⟨hb.1,hb.2.1⟩,fun _=>rfl⟩) (h.el i x cs h1 h2)) (fun z hz=>⟨.inr (own_ge h.own hz),own_lt h.own hz⟩) hl
end
theorem keep_course:KeepP CourseAt:=fun _ _ _ _ _ _ hS h=>CourseAt.keep hS h
theorem keep_req:KeepP ReqAt:=fun _ _ _ _ _ _ hS h=>ReqAt.keep hS h
theorem keep_prog:KeepP ProgAt:=fun _ _ _ _ _ _ hS h=>ProgAt.keep hS h
theorem keep_rule:KeepP RuleAt:=fun _ _ _ _ x cs hS h=>RuleAt.keep hS x cs h
theorem keep_pair:KeepP (fun _ _=>PairAt):=fun _ _ _ _ _ _ _ h=>h
theorem keep_int:KeepP (fun _ _=>OneAt intV):=fun _ _ _ _ _ _ _ h=>h
end Go.Proofs.YtjonaidancomgaaGreatDoor

namespace Go.Proofs.YtjonaidancomgaaGreatDoor
open Go.RowKit

theorem CellsAt.app {w:World} {b o:Nat} {cs ds:List Value} (h:CellsAt w b o cs) (k:CellsAt w b (o+cs.length) ds):CellsAt w b o (cs++ds):=fun j v hj=>by
 by_cases hl:j < cs.length
 ·rw[List.getElem?_append_left hl] at hj
  exact h j v hj
 ·rw[List.getElem?_append_right (by omega)] at hj
  have:=k (j - cs.length) v hj
  rw[show o+cs.length+(j - cs.length)=o+j by omega] at this
  exact this
theorem flat_from {α:Type} {w:World} {b o sz:Nat} {P:α→List Value→Prop} (hsz:∀ x cs,P x cs→cs.length=sz):∀ (l:List α) (k:Nat),(∀ i x,l[i]?=some x→∃ cs,P x cs∧CellsAt w b (o+(k+i)*sz) cs)→
  ∃ rs:List (List Value),rs.length=l.length∧(∀ (i:Nat) x cs,l[i]?=some x→rs[i]?=some cs→P x cs)∧CellsAt w b (o+k*sz) rs.flatten
 | [],k,_=>⟨[],rfl,fun i x cs h=>by simp at h,fun j v h=>by simp at h⟩
 | x::l,k,h=>by
  obtain ⟨cs,hP,hc⟩:=h 0 x rfl
  obtain ⟨rs,h1,h2,h3⟩:=flat_from hsz l (k+1) (fun i y hi=>by
   have:=h (i+1) y (by simpa using hi)
   rwa [show k+(i+1)=k+1+i by omega] at this)
  refine ⟨cs::rs,by simp [h1],fun i y ds hi hd=>?_,?_⟩
  ·cases i with
   | zero=>
    simp at hi hd
    subst hi;subst hd
    exact hP
   | succ i=>exact h2 i y ds (by simpa using hi) (by simpa using hd)
  ·rw[List.flatten_cons]
   refine CellsAt.app (by simpa using hc) ?_
   rw[hsz x cs hP,show o+k*sz+sz=o+(k+1)*sz by rw [Nat.add_mul];omega]
   exact h3
theorem Row.flat {α:Type} {w:World} {S:Nat→Prop} {A:Option Addr} {sz:Nat} {P:α→List Value→Prop} {l:List α} (h:Row w S A sz P l) (hsz:∀ x cs,P x cs→cs.length=sz) :
  ∃ rs:List (List Value),rs.length=l.length∧(∀ (i:Nat) x cs,l[i]?=some x→rs[i]?=some cs→P x cs)∧(l = []∨∃ b o,A=some ⟨b,o,none⟩∧S b∧CellsAt w b o rs.flatten):=by
 cases l with
 | nil=>exact ⟨[],rfl,fun i x cs h=>by simp at h,.inl rfl⟩
 | cons x l=>
  obtain ⟨b,o,cs0,rfl,hS,_⟩:=h.at_ 0 x rfl
  obtain ⟨rs,h1,h2,h3⟩:=flat_from (w:=w) (b:=b) (o:=o) hsz (x::l) 0 (fun i y hi=>by
   obtain ⟨b',o',cs,e,_,hP,hc⟩:=h.at_ i y hi
   injection e with e
   injection e with e1 e2
   subst e1;subst e2
   exact ⟨cs,hP,by simpa using hc⟩)
  exact ⟨rs,h1,h2,.inr ⟨b,o,rfl,hS,by simpa using h3⟩⟩
theorem own_slice {w:World} {base sz n:Nat} {e:TypeId} {v:Value} {xs:List Value} (h:w.ownsRow base e sz v n xs):∃ A c,v = .slice A n c∧n≤c:=by
 rcases h.2 with ⟨rfl,h0⟩ | ⟨g,cap,cur,rfl,_,_,hc,_⟩
 ·exact ⟨none,0,by rw [h0],by omega⟩
 ·exact ⟨_,cap,rfl,hc⟩
end Go.Proofs.YtjonaidancomgaaGreatDoor
