/- Parts of the proof, joined into one text: SxPrC0, SxAll, SxChain, SxRokA, SxRokB, SxRok. -/
import Derived.Test.YtjonaidancomgaaGreatDoorPSxSanP
import Derived.Test.YtjonaidancomgaaGreatDoorPSxEqs
import Derived.Deep.LoopGhost
import Derived.Test.YtjonaidancomgaaGreatDoorPSxParB
import Derived.BigQuiet

namespace Go.Proofs.YtjonaidancomgaaGreatDoor
open Go.RowKit

set_option maxRecDepth 20000 in
set_option maxHeartbeats 4000000 in
theorem lCourse010 (g N:Nat) (_hN:N≤g) (nm:List UInt8) (no cr:Int) (ar:Sx.Rule) (a0 a1:Int) (a2:ByteArray) (a3 a4:Int) (aA:Option Addr) (am ac:Nat) (aq:(a0 != 1)=true) (bA:Option Addr) (bc:Nat) (w:World) (_he:EnvS N w) (ha:RuleSays g w ar [.int .i64 a0,.int .i64 a1,.string a2,.int .i64 a3,.int .i64 a4,.slice aA am ac]) (l:List Lx.Tok) (h:PrSt g l w) (ts:List Lx.Tok) (hts:ts = [Sx.nameT Sx.wCourse,Sx.numT no,Sx.nameT nm,Sx.numT cr]++(([Sx.sgT 123]++(Sx.nameT Sx.wNeed::(Sx.ruleT ar++[Sx.sgT 59])++([Sx.sgT 125]))))) (hlen:l.length+ts.length≤60000) :
  Calls Tryz.prog 49 #[.pointer (some ⟨g,0,none⟩),.agg #[.string (Lx.bs nm),.int .i64 no,.int .i64 cr,.int .i64 0,.int .i64 a0,.int .i64 a1,.string a2,.int .i64 a3,.int .i64 a4,.slice aA am ac,.int .i64 2,.int .i64 0,.string ⟨#[]⟩,.int .i64 0,.int .i64 0,.slice bA 0 bc]] w (TPost g l ts w):=by
 have hglt:=h.lt
 have Hts:=Lh hts
 rw[hts] at hlen
 obtain ⟨W,hW⟩:∃ W,W=w.alloc (.cells #[.string (Lx.bs nm),.int .i64 no,.int .i64 cr,.int .i64 0,.int .i64 a0,.int .i64 a1,.string a2,.int .i64 a3,.int .i64 a4,.slice aA am ac,.int .i64 2,.int .i64 0,.string ⟨#[]⟩,.int .i64 0,.int .i64 0,.slice bA 0 bc] 58):=⟨_,rfl⟩
 have hbw:Below w.heap.size w W:=by rw [hW];exact (Below.refl _ _).alloc (Nat.le_refl _) _
 have hbx:Blk W w.heap.size 58 #[.string (Lx.bs nm),.int .i64 no,.int .i64 cr,.int .i64 0,.int .i64 a0,.int .i64 a1,.string a2,.int .i64 a3,.int .i64 a4,.slice aA am ac,.int .i64 2,.int .i64 0,.string ⟨#[]⟩,.int .i64 0,.int .i64 0,.slice bA 0 bc]:=by rw [hW];exact Blk.new _ _ _
 have hpi:PI g l W W:=PI.start (h.next hbw)
 have Ha:=Lh (ha.later (hbw.mono (by omega)))
 have H:=Lh hpi;have Hbw:=Lh hbw;have Hbx:=Lh hbx
 have hWs:W.heap.size=w.heap.size+1:=by rw [hW];simp
 clear h _he hpi hbw hbx hts ha
 go_enter Tryz.func49,Tryz.ntmps49
 go_wp2_with fail
 rw[←hW]
 refine (H.out.put [.name Sx.wCourse,.num no,.name nm,.num cr] (ts:=[Sx.nameT Sx.wCourse,Sx.numT no,Sx.nameT nm,Sx.numT cr]) hWs.symm rfl rfl rfl (by simp) (by simp at hlen ⊢;omega) (by simp)).mono ?_
 rintro e w1 ⟨rfl,h⟩
 have H1:=Lh h
 obtain ⟨x0,x1,x2,x3,x4,x5,x6,x7,x8,x9,x10,x11,x12,x13,x14,x15,z1⟩:=cells16 (h.blk Hbx.out (by decide) (by decide))
 clear h
 go_wp2_with fail
 refine (H1.out.put [.sign [123]] (ts:=[Sx.sgT 123]) rfl rfl rfl rfl (by simp) (by simp at hlen ⊢;omega) (by simp)).mono ?_
 rintro e w2 ⟨rfl,h⟩
 have H2:=Lh h
 obtain ⟨x0,x1,x2,x3,x4,x5,x6,x7,x8,x9,x10,x11,x12,x13,x14,x15,z2⟩:=cells16 (h.blk Hbx.out (by decide) (by decide))
 clear h
 go_wp2_with fail
 refine (H2.out.put [.name Sx.wNeed,.rule ar [.int .i64 a0,.int .i64 a1,.string a2,.int .i64 a3,.int .i64 a4,.slice aA am ac],.sign [59]] (ts:=Sx.nameT Sx.wNeed::(Sx.ruleT ar++[Sx.sgT 59])) rfl rfl rfl (by simp [PrIt.toks,Sx.nameT,Sx.sgT]) (by simp) (by simp at hlen ⊢;omega) (fun r c hr=>by simp only [List.mem_cons,PrIt.rule.injEq,List.not_mem_nil,or_false,false_or,reduceCtorEq] at hr;rw[hr.1,hr.2];exact Ha.out)).mono ?_
 rintro e w3 ⟨rfl,h⟩
 have H3:=Lh h
 obtain ⟨x0,x1,x2,x3,x4,x5,x6,x7,x8,x9,x10,x11,x12,x13,x14,x15,z3⟩:=cells16 (h.blk Hbx.out (by decide) (by decide))
 clear h
 go_wp2_with fail
 refine (H3.out.put [.sign [125]] (ts:=[Sx.sgT 125]) rfl rfl rfl rfl (by simp) (by simp at hlen ⊢;omega) (by simp)).mono ?_
 rintro e w4 ⟨rfl,h⟩
 have H4:=Lh h
 obtain ⟨x0,x1,x2,x3,x4,x5,x6,x7,x8,x9,x10,x11,x12,x13,x14,x15,z4⟩:=cells16 (h.blk Hbx.out (by decide) (by decide))
 clear h
 go_wp2_with fail
 go_end0
 exact ⟨rfl,by have:=H4.out.st;rw[Hts.out];simpa using this,(Hbw.out.mono (by omega)).trans H4.out.bel,(KP.below Hbw.out).trans H4.out.kp⟩
end Go.Proofs.YtjonaidancomgaaGreatDoor

namespace Go.Proofs.YtjonaidancomgaaGreatDoor
open Go.RowKit

theorem old_keep {w w':World} (hb:Below w.heap.size w w'):∀ b,Old w b→Old w' b∧∀ i,w'.cell? ⟨b,i,none⟩=w.cell? ⟨b,i,none⟩:=fun b hb1=>⟨Nat.lt_of_lt_of_le hb1 hb.size,fun i=>hb.cell (p:=⟨b,i,none⟩) hb1⟩
def IdxPost (R:Bool) (w:World) (e:Ending) (w':World):Prop:=∃ z:Int,e = .returned (.int .i64 z)∧decide (0≤z)=R∧Below w.heap.size w w'
theorem all_no {α:Type} {l:List α} {b:α→Bool} {i:Nat} {x:α} (h:l[i]?=some x) (hb:b x=false):l.all b=false:=by
 rw[List.all_eq_false]
 exact ⟨x,List.mem_of_getElem? h,by simp [hb]⟩
theorem all_yes {α:Type} {l:List α} {b:α→Bool} (h:∀ j x,j < l.length→l[j]?=some x→b x=true):l.all b=true:=by
 rw[List.all_eq_true]
 intro x hx
 obtain ⟨j,hj,e⟩:=List.mem_iff_getElem.1 hx
 exact h j x hj (by rw [List.getElem?_eq_getElem hj,e])
theorem form_rule {w:World} {S:Nat→Prop} {x:Sx.Rule} {cs:List Value} (h:RuleAt w S x cs):∃ (i0:Int) (i1:Int) (s2:ByteArray) (i3:Int) (i4:Int) (A5:Option Addr) (n5 c5:Nat),cs = [.int .i64 i0,.int .i64 i1,.string s2,.int .i64 i3,.int .i64 i4,.slice A5 n5 c5]:=by
 cases x
 rw[RuleAt] at h
 obtain ⟨A,c,rfl,_⟩:=h
 exact ⟨_,_,_,_,_,_,_,_,rfl⟩
theorem old_rule {w w':World} {x:Sx.Rule} {cs:List Value} (hb:Below w.heap.size w w') (h:RuleAt w (Old w) x cs):RuleAt w' (Old w') x cs:=RuleAt.old h hb
theorem form_course {w:World} {S:Nat→Prop} {x:Sx.Course} {cs:List Value} (h:CourseAt w S x cs):∃ (s0:ByteArray) (i1:Int) (i2:Int) (i3:Int) (i4:Int) (i5:Int) (s6:ByteArray) (i7:Int) (i8:Int) (A9:Option Addr) (n9 c9:Nat) (i10:Int) (i11:Int) (s12:ByteArray) (i13:Int) (i14:Int) (A15:Option Addr) (n15 c15:Nat),cs = [.string s0,.int .i64 i1,.int .i64 i2,.int .i64 i3,.int .i64 i4,.int .i64 i5,.string s6,.int .i64 i7,.int .i64 i8,.slice A9 n9 c9,.int .i64 i10,.int .i64 i11,.string s12,.int .i64 i13,.int .i64 i14,.slice A15 n15 c15]:=by
 obtain ⟨cn,cb,rfl,_,h3,h4⟩:=h
 obtain ⟨i0,i1,s2,i3,i4,A5,n5,c5,rfl⟩:=form_rule h3
 obtain ⟨j0,j1,t2,j3,j4,B5,m5,d5,rfl⟩:=form_rule h4
 exact ⟨_,_,_,_,_,_,_,_,_,_,_,_,_,_,_,_,_,_,_,_,rfl⟩
theorem old_course {w w':World} {x:Sx.Course} {cs:List Value} (hb:Below w.heap.size w w') (h:CourseAt w (Old w) x cs):CourseAt w' (Old w') x cs:=CourseAt.keep (old_keep hb) h
set_option maxRecDepth 20000 in
set_option maxHeartbeats 4000000 in
theorem idx_course (A:Option Addr) (c:Nat) (l:List Sx.Course) (bx:Nat) (b:Sx.Course→Bool) (w:World) (hl:Row w (Old w) A 16 (CourseAt w (Old w)) l)
  (HC:∀ x∈l,∀ cs W,Below w.heap.size w W→CourseAt W (Old W) x cs→Calls Tryz.prog 175 #[.agg cs.toArray,.pointer (some ⟨bx,0,none⟩)] W (BoolPost (!b x) W)) :
  Calls Tryz.prog 204 #[.slice A l.length c,.func (.func 175) #[] #[.pointer (some ⟨bx,0,none⟩)]] w (IdxPost (!l.all b) w):=by
 obtain ⟨m,hm⟩:∃ m,m=l.length:=⟨_,rfl⟩
 obtain ⟨R,hR⟩:∃ R,R = !l.all b:=⟨_,rfl⟩
 have z0:=hl.len
 rw[←hm] at z0 ⊢
 rw[←hR]
 have Hl:=Lh hl;have Hm:=Lh hm;have HR:=Lh hR;have HC':=Lh HC
 clear hl hm hR HC
 go_enter Tryz.func204,Tryz.ntmps204
 go_wp2_with fail
 go_loopg [8] m (fun gk v8 wr=>∃ i:Nat,v8 = .int .i64 i∧i+gk=m∧Hid (Below w.heap.size w wr)∧Hid (∀ j x,j < i→l[j]?=some x→b x=true))
 case atStart=>exact ⟨0,rfl,by omega,Lh (Below.refl _ _),Lh (fun j x hj=>absurd hj (Nat.not_lt_zero j))⟩
 case round=>
  obtain ⟨i,rfl,hi,Hb,Hag⟩:=hrel
  have hws:=Hb.out.size
  by_cases hlt:i < m
  ·obtain ⟨x,hx⟩:∃ x,l[i]?=some x:=⟨_,List.getElem?_eq_getElem (by have:=Hm.out;omega)⟩
   have Hx:=Lh hx
   obtain ⟨bk,ok,cs,rfl,hS,hP,hck⟩:=Hl.out.at_ i x hx
   have hcall:=HC'.out x (List.mem_of_getElem? hx) cs
   have hP':=old_course Hb.out hP
   obtain ⟨s0,i1,i2,i3,i4,i5,s6,i7,i8,A9,n9,c9,i10,i11,s12,i13,i14,A15,n15,c15,rfl⟩:=form_course hP
   have k0:=(Hb.out.cell (p:=⟨bk,_,none⟩) hS).trans (hck 0 _ rfl)
   have k1:=(Hb.out.cell (p:=⟨bk,_,none⟩) hS).trans (hck 1 _ rfl)
   have k2:=(Hb.out.cell (p:=⟨bk,_,none⟩) hS).trans (hck 2 _ rfl)
   have k3:=(Hb.out.cell (p:=⟨bk,_,none⟩) hS).trans (hck 3 _ rfl)
   have k4:=(Hb.out.cell (p:=⟨bk,_,none⟩) hS).trans (hck 4 _ rfl)
   have k5:=(Hb.out.cell (p:=⟨bk,_,none⟩) hS).trans (hck 5 _ rfl)
   have k6:=(Hb.out.cell (p:=⟨bk,_,none⟩) hS).trans (hck 6 _ rfl)
   have k7:=(Hb.out.cell (p:=⟨bk,_,none⟩) hS).trans (hck 7 _ rfl)
   have k8:=(Hb.out.cell (p:=⟨bk,_,none⟩) hS).trans (hck 8 _ rfl)
   have k9:=(Hb.out.cell (p:=⟨bk,_,none⟩) hS).trans (hck 9 _ rfl)
   have k10:=(Hb.out.cell (p:=⟨bk,_,none⟩) hS).trans (hck 10 _ rfl)
   have k11:=(Hb.out.cell (p:=⟨bk,_,none⟩) hS).trans (hck 11 _ rfl)
   have k12:=(Hb.out.cell (p:=⟨bk,_,none⟩) hS).trans (hck 12 _ rfl)
   have k13:=(Hb.out.cell (p:=⟨bk,_,none⟩) hS).trans (hck 13 _ rfl)
   have k14:=(Hb.out.cell (p:=⟨bk,_,none⟩) hS).trans (hck 14 _ rfl)
   have k15:=(Hb.out.cell (p:=⟨bk,_,none⟩) hS).trans (hck 15 _ rfl)
   simp only[Nat.add_zero] at k0 k1 k2 k3 k4 k5 k6 k7 k8 k9 k10 k11 k12 k13 k14 k15
   have Hcall:=Lh (hcall wr Hb.out hP')
   clear hcall hP hP' hck hx
   cases hq:b x with
   | false=>
    rw[hq] at Hcall
    have HR2:Hid (R=true):=Lh (by rw [HR.out,all_no Hx.out hq];rfl)
    clear hq
    go_wp2_with fail
    refine Hcall.out.mono ?_
    rintro e w5 ⟨rfl,hb5⟩
    have Hb5:=Lh hb5
    clear hb5
    go_wp2_with fail
    go_ret
    exact ⟨i,ret_int rfl,by rw [HR2.out];simp,Hb.out.trans (Hb5.out.mono hws)⟩
   | true=>
    rw[hq] at Hcall
    have Hq:=Lh hq
    clear hq
    go_wp2_with fail
    refine Hcall.out.mono ?_
    rintro e w5 ⟨rfl,hb5⟩
    have Hb5:=Lh hb5
    clear hb5
    go_wp2_with fail
    go_roundg (gk - 1)
    all_goals first
     | omega
     | exact ⟨i+1,by go_num,by omega,Lh (Hb.out.trans (Hb5.out.mono hws)),Lh (fun j y hj h1=>by
       rcases Nat.lt_or_ge j i with h3 | h3
       ·exact Hag.out j y h3 h1
       ·obtain rfl:j=i:=by omega
        rw[Hx.out] at h1
        injection h1 with h1
        rw[←h1];exact Hq.out)⟩
  ·obtain rfl:i=m:=by omega
   have HR2:Hid (R=false):=Lh (by rw [HR.out,all_yes fun j x hj h=>Hag.out j x (by have:=Hm.out;omega) h];rfl)
   go_wp2_with fail
   go_ret
   exact ⟨-1,ret_int rfl,by rw [HR2.out];rfl,Hb.out⟩
theorem has_course (A:Option Addr) (c:Nat) (l:List Sx.Course) (bx:Nat) (b:Sx.Course→Bool) (w:World) (hl:Row w (Old w) A 16 (CourseAt w (Old w)) l)
  (HC:∀ x∈l,∀ cs W,Below w.heap.size w W→CourseAt W (Old W) x cs→Calls Tryz.prog 175 #[.agg cs.toArray,.pointer (some ⟨bx,0,none⟩)] W (BoolPost (!b x) W)) :
  Calls Tryz.prog 174 #[.slice A l.length c,.func (.func 175) #[] #[.pointer (some ⟨bx,0,none⟩)]] w (BoolPost (!l.all b) w):=by
 have Hc:=Lh (idx_course A c l bx b w hl HC)
 obtain ⟨R,hR⟩:∃ R,R = !l.all b:=⟨_,rfl⟩
 obtain ⟨m,hm⟩:∃ m,m=l.length:=⟨_,rfl⟩
 rw[←hR,←hm] at Hc ⊢
 clear hl HC hR hm
 go_enter Tryz.func174,Tryz.ntmps174
 go_wp2_with fail
 refine Hc.out.mono ?_
 rintro e w1 ⟨z,rfl,hz,hb1⟩
 have Hz:=Lh hz;have Hb1:=Lh hb1
 clear hz hb1
 go_wp2_with fail
 go_ret
 exact ⟨ret_bool Hz.out,Hb1.out⟩
set_option maxRecDepth 20000 in
set_option maxHeartbeats 2000000 in
theorem clo_course (x:Sx.Course) (cs:List Value) (bx:Nat) (b:Bool) (w:World) (hbx:Blk w bx 177 #[.func (.func 122) #[] #[]]) (hP:CourseAt w (Old w) x cs)
  (H:∀ W,Below w.heap.size w W→CourseAt W (Old W) x cs→Calls Tryz.prog 122 #[.agg cs.toArray] W (BoolPost b W)) :
  Calls Tryz.prog 175 #[.agg cs.toArray,.pointer (some ⟨bx,0,none⟩)] w (BoolPost (!b) w):=by
 have c0:=hbx.cell 0
 have hlt:=hbx.lt
 simp at c0
 have hP':=hP
 obtain ⟨s0,i1,i2,i3,i4,i5,s6,i7,i8,A9,n9,c9,i10,i11,s12,i13,i14,A15,n15,c15,rfl⟩:=form_course hP
 have hbw:Below w.heap.size w (w.alloc (.cells #[.string s0,.int .i64 i1,.int .i64 i2,.int .i64 i3,.int .i64 i4,.int .i64 i5,.string s6,.int .i64 i7,.int .i64 i8,.slice A9 n9 c9,.int .i64 i10,.int .i64 i11,.string s12,.int .i64 i13,.int .i64 i14,.slice A15 n15 c15] 58)):=(Below.refl _ _).alloc (Nat.le_refl _) _
 have Hc:=Lh (H _ hbw (old_course hbw hP'))
 have Hbw:=Lh hbw
 clear H hbw hP hP' hbx
 go_enter Tryz.func175,Tryz.ntmps175
 go_wp2_with fail
 refine Hc.out.mono ?_
 rintro e w1 ⟨rfl,hb1⟩
 have Hb1:=Lh (Hbw.out.trans (hb1.mono Hbw.out.size))
 clear hb1
 go_wp2_with fail
 go_ret
 exact ⟨ret_bool rfl,Hb1.out⟩
set_option maxRecDepth 20000 in
set_option maxHeartbeats 2000000 in
theorem all_course (A:Option Addr) (c:Nat) (l:List Sx.Course) (b:Sx.Course→Bool) (w:World) (hl:Row w (Old w) A 16 (CourseAt w (Old w)) l)
  (H:∀ x∈l,∀ cs W,Below w.heap.size w W→CourseAt W (Old W) x cs→Calls Tryz.prog 122 #[.agg cs.toArray] W (BoolPost (b x) W)) :
  Calls Tryz.prog 121 #[.slice A l.length c,.func (.func 122) #[] #[]] w (BoolPost (l.all b) w):=by
 have hbw:Below w.heap.size w (w.alloc (.cells #[.func (.func 122) #[] #[]] 177)):=(Below.refl _ _).alloc (Nat.le_refl _) _
 have hbx:Blk (w.alloc (.cells #[.func (.func 122) #[] #[]] 177)) w.heap.size 177 #[.func (.func 122) #[] #[]]:=Blk.new _ _ _
 have Hc:=Lh (has_course A c l w.heap.size b _ (hl.keep (P':=CourseAt (w.alloc (.cells #[.func (.func 122) #[] #[]] 177)) (Old (w.alloc (.cells #[.func (.func 122) #[] #[]] 177)))) (old_keep hbw) fun _ _ _ h=>old_course hbw h) (fun x hx cs W hW hP=>clo_course x cs w.heap.size (b x) W (hbx.below hW hbx.lt) hP (fun W' hW' hP'=>H x hx cs W' (hbw.trans ((hW.mono hbw.size).trans (hW'.mono (Nat.le_trans hbw.size hW.size)))) hP')))
 obtain ⟨m,hm⟩:∃ m,m=l.length:=⟨_,rfl⟩
 obtain ⟨R,hR⟩:∃ R,R=l.all b:=⟨_,rfl⟩
 rw[←hR,←hm] at Hc
 rw[←hR,←hm]
 have Hbw:=Lh hbw
 clear H hbw hbx hl hm hR
 go_enter Tryz.func121,Tryz.ntmps121
 go_wp2_with fail
 refine Hc.out.mono ?_
 rintro e w1 ⟨rfl,hb1⟩
 have Hb1:=Lh (Hbw.out.trans (hb1.mono Hbw.out.size))
 clear hb1
 go_wp2_with fail
 go_ret
 exact ⟨ret_bool (by simp),Hb1.out⟩
theorem form_pair {x:Sx.Pair} {cs:List Value} (h:PairAt x cs):∃ (s0:ByteArray) (s1:ByteArray) (i2:Int) (i3:Int),cs = [.string s0,.string s1,.int .i64 i2,.int .i64 i3]:=by
 obtain ⟨rfl,_,_⟩:=h
 exact ⟨_,_,_,_,rfl⟩
theorem form_prog {w:World} {S:Nat→Prop} {x:Sx.Prog} {cs:List Value} (h:ProgAt w S x cs):∃ (s0:ByteArray) (i1:Int) (i2:Int) (i3:Int) (i4:Int) (i5:Int) (A6:Option Addr) (n6 c6:Nat),cs = [.string s0,.int .i64 i1,.int .i64 i2,.int .i64 i3,.int .i64 i4,.int .i64 i5,.slice A6 n6 c6]:=by
 obtain ⟨A,c,rfl,_⟩:=h
 exact ⟨_,_,_,_,_,_,_,_,_,rfl⟩
theorem form_cls {x:Sx.Cls} {cs:List Value} (h:ClsAt x cs):∃ (s0:ByteArray) (i1:Int) (i2:Int) (i3:Int),cs = [.string s0,.int .i64 i1,.int .i64 i2,.int .i64 i3]:=by
 obtain ⟨rfl,_⟩:=h
 exact ⟨_,_,_,_,rfl⟩
theorem form_fee {x:Sx.Fee} {cs:List Value} (h:FeeAt x cs):∃ (s0:ByteArray) (i1:Int),cs = [.string s0,.int .i64 i1]:=by
 obtain ⟨rfl,_⟩:=h
 exact ⟨_,_,rfl⟩
theorem form_clause {x:Sx.Clause} {cs:List Value} (h:ClauseAt x cs):∃ (i0:Int) (i1:Int) (i2:Int) (i3:Int),cs = [.int .i64 i0,.int .i64 i1,.int .i64 i2,.int .i64 i3]:=by
 unfold ClauseAt at h
 subst h
 exact ⟨_,_,_,_,rfl⟩
theorem form_req {w:World} {S:Nat→Prop} {x:Sx.Req} {cs:List Value} (h:ReqAt w S x cs):∃ (s0:ByteArray) (i1:Int) (i2:Int) (b3:Bool) (A4:Option Addr) (n4 c4:Nat) (A5:Option Addr) (n5 c5:Nat),cs = [.string s0,.int .i64 i1,.int .i64 i2,.bool b3,.slice A4 n4 c4,.slice A5 n5 c5]:=by
 obtain ⟨A,c,B,d,rfl,_⟩:=h
 exact ⟨_,_,_,_,_,_,_,_,_,_,rfl⟩
end Go.Proofs.YtjonaidancomgaaGreatDoor

namespace Go.Proofs.YtjonaidancomgaaGreatDoor
open Go.RowKit

end Go.Proofs.YtjonaidancomgaaGreatDoor

namespace Go.Proofs.YtjonaidancomgaaGreatDoor
open Go.RowKit

set_option maxRecDepth 20000 in
set_option maxHeartbeats 8000000 in
theorem rok1 (z:Int) (hz:decide ((16:Int) < z)=false) (b:Sx.Rule→Bool) (co n d:Int) (nm:List UInt8) (ks:List Sx.Rule) (A:Option Addr) (m c:Nat) (_hm:m=ks.length) (hn:nm.length≤140737488351232) (w:World)
  (hall:∀ W,Below w.heap.size w W→Blk W (w.heap.size+1) 3 #[.int .i64 z]→Calls Tryz.prog 147 #[.slice A m c,.func (.func 148) #[] #[.pointer (some ⟨w.heap.size+1,0,none⟩)]] W (BoolPost (!ks.all b) W)) :
  Calls Tryz.prog 57 #[.agg #[.int .i64 1,.int .i64 co,.string (Lx.bs nm),.int .i64 n,.int .i64 d,.slice A m c],.int .i64 z] w (BoolPost (!decide ((200:Int) < (m:Int)) && nm.isEmpty && !(co != 0) && !(n != 0) && !(d != 0) && ks.all b) w):=by
 obtain ⟨R,hR⟩:∃ R:Bool,R=(!decide ((200:Int) < (m:Int)) && nm.isEmpty && !(co != 0) && !(n != 0) && !(d != 0) && ks.all b):=⟨_,rfl⟩
 rw[←hR]
 have Hall:=Lh hall
 obtain ⟨W,hW⟩:∃ W,W=((w.alloc (.cells #[.int .i64 1,.int .i64 co,.string (Lx.bs nm),.int .i64 n,.int .i64 d,.slice A m c] 38)).alloc (.cells #[.int .i64 z] 3)).alloc (.cells #[.int .i64 0,.int .i64 co,.string (Lx.bs nm),.int .i64 n,.int .i64 d,.slice none 0 0] 38):=⟨_,rfl⟩
 have hbW:Below w.heap.size w W:=by
  rw[hW]
  exact ((Below.refl _ _).alloc (Nat.le_refl _) _).alloc (by simp) _ |>.alloc (by simp;omega) _
 have e0:Blk W w.heap.size 38 #[.int .i64 1,.int .i64 co,.string (Lx.bs nm),.int .i64 n,.int .i64 d,.slice A m c]:=by rw [hW];exact ((Blk.new w _ _).alloc _).alloc _
 have e1:Blk W (w.heap.size+1) 3 #[.int .i64 z]:=by rw [hW];exact (Blk.new_at _ _ (by simp)).alloc _
 have e2:Blk W (w.heap.size+1+1) 38 #[.int .i64 0,.int .i64 co,.string (Lx.bs nm),.int .i64 n,.int .i64 d,.slice none 0 0]:=by rw [hW];exact Blk.new_at _ _ (by simp)
 have hw0:Below w.heap.size w ((w.alloc (.cells #[.int .i64 1,.int .i64 co,.string (Lx.bs nm),.int .i64 n,.int .i64 d,.slice A m c] 38)).alloc (.cells #[.int .i64 z] 3)):=((Below.refl _ _).alloc (Nat.le_refl _) _).alloc (by simp) _
 have HB0:=Lh hbW;have E0:=Lh e0;have F0:=Lh e1;have G0:=Lh e2;have HW0:=Lh hw0
 have hbs:((Lx.bs nm).toList == (⟨#[]⟩:ByteArray).toList)=nm.isEmpty:=by rw [ByteArray.toList_eq,ByteArray.toList_eq,Lx.bs_list];cases nm <;> rfl
 have hbs2:(Lx.bs nm).toList.isEmpty=nm.isEmpty:=by rw [ByteArray.toList_eq,Lx.bs_list]
 clear hall hbW e0 e1 e2 hw0 _hm
 have HR:=Lh hR
 clear hR
 go_enter Tryz.func57,Tryz.ntmps57
 cases q0:decide ((200:Int) < (m:Int)) with
 | true=>
  have HF:Hid (R=false):=Lh (by rw [HR.out,q0];simp)
  go_wp2_with fail
  go_ret
  exact ⟨ret_bool HF.out.symm,HW0.out⟩
 | false=>
 cases q1:nm.isEmpty with
 | false=>
  have HF:Hid (R=false):=Lh (by rw [HR.out,q0,q1];simp)
  rw[q1] at hbs hbs2
  go_wp2_with fail
  go_ret
  exact ⟨ret_bool HF.out.symm,(by have h:=HB0.out;rw[hW] at h;first | exact h | exact h.drew | exact bel_drewN h _)⟩
 | true=>
 rw[q1] at hbs hbs2
 cases q2:(co != 0) with
 | true=>
  have HF:Hid (R=false):=Lh (by rw [HR.out,q0,q1,q2];simp)
  go_wp2_with fail
  go_ret
  exact ⟨ret_bool HF.out.symm,(by have h:=HB0.out;rw[hW] at h;first | exact h | exact h.drew | exact bel_drewN h _)⟩
 | false=>
 cases q3:(n != 0) with
 | true=>
  have HF:Hid (R=false):=Lh (by rw [HR.out,q0,q1,q2,q3];simp)
  go_wp2_with fail
  go_ret
  exact ⟨ret_bool HF.out.symm,(by have h:=HB0.out;rw[hW] at h;first | exact h | exact h.drew | exact bel_drewN h _)⟩
 | false=>
 cases q4:(d != 0) with
 | true=>
  have HF:Hid (R=false):=Lh (by rw [HR.out,q0,q1,q2,q3,q4];simp)
  go_wp2_with fail
  go_ret
  exact ⟨ret_bool HF.out.symm,(by have h:=HB0.out;rw[hW] at h;first | exact h | exact h.drew | exact bel_drewN h _)⟩
 | false=>
 have HT:Hid (R=ks.all b):=Lh (by rw [HR.out,q0,q1,q2,q3,q4];simp)
 go_wp2_with fail
 rw[←hW]
 refine (Hall.out _ HB0.out F0.out).mono ?_
 rintro e w9 ⟨rfl,hb⟩
 have HB9:Hid (Below w.heap.size w w9):=Lh (Below.trans HB0.out (hb.mono HB0.out.size))
 clear hb
 go_wp2_with fail
 go_ret
 exact ⟨ret_bool (by simp [HT.out]),HB9.out⟩
set_option maxRecDepth 20000 in
set_option maxHeartbeats 8000000 in
theorem rok2 (z:Int) (hz:decide ((16:Int) < z)=false) (b:Sx.Rule→Bool) (co n d:Int) (nm:List UInt8) (ks:List Sx.Rule) (A:Option Addr) (m c:Nat) (_hm:m=ks.length) (hn:nm.length≤140737488351232) (w:World)
  (hall:∀ W,Below w.heap.size w W→Blk W (w.heap.size+1) 3 #[.int .i64 z]→Calls Tryz.prog 147 #[.slice A m c,.func (.func 148) #[] #[.pointer (some ⟨w.heap.size+1,0,none⟩)]] W (BoolPost (!ks.all b) W)) :
  Calls Tryz.prog 57 #[.agg #[.int .i64 2,.int .i64 co,.string (Lx.bs nm),.int .i64 n,.int .i64 d,.slice A m c],.int .i64 z] w (BoolPost (!decide ((200:Int) < (m:Int)) && nm.isEmpty && !(co != 0) && !(n != 0) && !(d != 0) && ks.all b) w):=by
 obtain ⟨R,hR⟩:∃ R:Bool,R=(!decide ((200:Int) < (m:Int)) && nm.isEmpty && !(co != 0) && !(n != 0) && !(d != 0) && ks.all b):=⟨_,rfl⟩
 rw[←hR]
 have Hall:=Lh hall
 obtain ⟨W,hW⟩:∃ W,W=((w.alloc (.cells #[.int .i64 2,.int .i64 co,.string (Lx.bs nm),.int .i64 n,.int .i64 d,.slice A m c] 38)).alloc (.cells #[.int .i64 z] 3)).alloc (.cells #[.int .i64 0,.int .i64 co,.string (Lx.bs nm),.int .i64 n,.int .i64 d,.slice none 0 0] 38):=⟨_,rfl⟩
 have hbW:Below w.heap.size w W:=by
  rw[hW]
  exact ((Below.refl _ _).alloc (Nat.le_refl _) _).alloc (by simp) _ |>.alloc (by simp;omega) _
 have e0:Blk W w.heap.size 38 #[.int .i64 2,.int .i64 co,.string (Lx.bs nm),.int .i64 n,.int .i64 d,.slice A m c]:=by rw [hW];exact ((Blk.new w _ _).alloc _).alloc _
 have e1:Blk W (w.heap.size+1) 3 #[.int .i64 z]:=by rw [hW];exact (Blk.new_at _ _ (by simp)).alloc _
 have e2:Blk W (w.heap.size+1+1) 38 #[.int .i64 0,.int .i64 co,.string (Lx.bs nm),.int .i64 n,.int .i64 d,.slice none 0 0]:=by rw [hW];exact Blk.new_at _ _ (by simp)
 have hw0:Below w.heap.size w ((w.alloc (.cells #[.int .i64 2,.int .i64 co,.string (Lx.bs nm),.int .i64 n,.int .i64 d,.slice A m c] 38)).alloc (.cells #[.int .i64 z] 3)):=((Below.refl _ _).alloc (Nat.le_refl _) _).alloc (by simp) _
 have HB0:=Lh hbW;have E0:=Lh e0;have F0:=Lh e1;have G0:=Lh e2;have HW0:=Lh hw0
 have hbs:((Lx.bs nm).toList == (⟨#[]⟩:ByteArray).toList)=nm.isEmpty:=by rw [ByteArray.toList_eq,ByteArray.toList_eq,Lx.bs_list];cases nm <;> rfl
 have hbs2:(Lx.bs nm).toList.isEmpty=nm.isEmpty:=by rw [ByteArray.toList_eq,Lx.bs_list]
 clear hall hbW e0 e1 e2 hw0 _hm
 have HR:=Lh hR
 clear hR
 go_enter Tryz.func57,Tryz.ntmps57
 cases q0:decide ((200:Int) < (m:Int)) with
 | true=>
  have HF:Hid (R=false):=Lh (by rw [HR.out,q0];simp)
  go_wp2_with fail
  go_ret
  exact ⟨ret_bool HF.out.symm,HW0.out⟩
 | false=>
 cases q1:nm.isEmpty with
 | false=>
  have HF:Hid (R=false):=Lh (by rw [HR.out,q0,q1];simp)
  rw[q1] at hbs hbs2
  go_wp2_with fail
  go_ret
  exact ⟨ret_bool HF.out.symm,(by have h:=HB0.out;rw[hW] at h;first | exact h | exact h.drew | exact bel_drewN h _)⟩
 | true=>
 rw[q1] at hbs hbs2
 cases q2:(co != 0) with
 | true=>
  have HF:Hid (R=false):=Lh (by rw [HR.out,q0,q1,q2];simp)
  go_wp2_with fail
  go_ret
  exact ⟨ret_bool HF.out.symm,(by have h:=HB0.out;rw[hW] at h;first | exact h | exact h.drew | exact bel_drewN h _)⟩
 | false=>
 cases q3:(n != 0) with
 | true=>
  have HF:Hid (R=false):=Lh (by rw [HR.out,q0,q1,q2,q3];simp)
  go_wp2_with fail
  go_ret
  exact ⟨ret_bool HF.out.symm,(by have h:=HB0.out;rw[hW] at h;first | exact h | exact h.drew | exact bel_drewN h _)⟩
 | false=>
 cases q4:(d != 0) with
 | true=>
  have HF:Hid (R=false):=Lh (by rw [HR.out,q0,q1,q2,q3,q4];simp)
  go_wp2_with fail
  go_ret
  exact ⟨ret_bool HF.out.symm,(by have h:=HB0.out;rw[hW] at h;first | exact h | exact h.drew | exact bel_drewN h _)⟩
 | false=>
 have HT:Hid (R=ks.all b):=Lh (by rw [HR.out,q0,q1,q2,q3,q4];simp)
 go_wp2_with fail
 rw[←hW]
 refine (Hall.out _ HB0.out F0.out).mono ?_
 rintro e w9 ⟨rfl,hb⟩
 have HB9:Hid (Below w.heap.size w w9):=Lh (Below.trans HB0.out (hb.mono HB0.out.size))
 clear hb
 go_wp2_with fail
 go_ret
 exact ⟨ret_bool (by simp [HT.out]),HB9.out⟩
set_option maxRecDepth 20000 in
set_option maxHeartbeats 8000000 in
theorem rokNo (z:Int) (hz:decide ((16:Int) < z)=false) (b:Sx.Rule→Bool) (op co n d:Int) (nm:List UInt8) (ks:List Sx.Rule) (A:Option Addr) (m c:Nat) (_hm:m=ks.length) (hn:nm.length≤140737488351232) (w:World) (o1:(op == 1)=false) (o2:(op == 2)=false) (o3:(op == 3)=false) (o4:(op == 4)=false) (o5:(op == 5)=false) (o6:(op == 6)=false) (o7:(op == 7)=false) (o8:(op == 8)=false) (o9:(op == 9)=false)
  (hall:∀ W,Below w.heap.size w W→Blk W (w.heap.size+1) 3 #[.int .i64 z]→Calls Tryz.prog 147 #[.slice A m c,.func (.func 148) #[] #[.pointer (some ⟨w.heap.size+1,0,none⟩)]] W (BoolPost (!ks.all b) W)) :
  Calls Tryz.prog 57 #[.agg #[.int .i64 op,.int .i64 co,.string (Lx.bs nm),.int .i64 n,.int .i64 d,.slice A m c],.int .i64 z] w (BoolPost (false) w):=by
 obtain ⟨R,hR⟩:∃ R:Bool,R=(false):=⟨_,rfl⟩
 rw[←hR]
 have Hall:=Lh hall
 obtain ⟨W,hW⟩:∃ W,W=((w.alloc (.cells #[.int .i64 op,.int .i64 co,.string (Lx.bs nm),.int .i64 n,.int .i64 d,.slice A m c] 38)).alloc (.cells #[.int .i64 z] 3)).alloc (.cells #[.int .i64 0,.int .i64 co,.string (Lx.bs nm),.int .i64 n,.int .i64 d,.slice none 0 0] 38):=⟨_,rfl⟩
 have hbW:Below w.heap.size w W:=by
  rw[hW]
  exact ((Below.refl _ _).alloc (Nat.le_refl _) _).alloc (by simp) _ |>.alloc (by simp;omega) _
 have e0:Blk W w.heap.size 38 #[.int .i64 op,.int .i64 co,.string (Lx.bs nm),.int .i64 n,.int .i64 d,.slice A m c]:=by rw [hW];exact ((Blk.new w _ _).alloc _).alloc _
 have e1:Blk W (w.heap.size+1) 3 #[.int .i64 z]:=by rw [hW];exact (Blk.new_at _ _ (by simp)).alloc _
 have e2:Blk W (w.heap.size+1+1) 38 #[.int .i64 0,.int .i64 co,.string (Lx.bs nm),.int .i64 n,.int .i64 d,.slice none 0 0]:=by rw [hW];exact Blk.new_at _ _ (by simp)
 have hw0:Below w.heap.size w ((w.alloc (.cells #[.int .i64 op,.int .i64 co,.string (Lx.bs nm),.int .i64 n,.int .i64 d,.slice A m c] 38)).alloc (.cells #[.int .i64 z] 3)):=((Below.refl _ _).alloc (Nat.le_refl _) _).alloc (by simp) _
 have HB0:=Lh hbW;have E0:=Lh e0;have F0:=Lh e1;have G0:=Lh e2;have HW0:=Lh hw0
 have hbs:((Lx.bs nm).toList == (⟨#[]⟩:ByteArray).toList)=nm.isEmpty:=by rw [ByteArray.toList_eq,ByteArray.toList_eq,Lx.bs_list];cases nm <;> rfl
 have hbs2:(Lx.bs nm).toList.isEmpty=nm.isEmpty:=by rw [ByteArray.toList_eq,Lx.bs_list]
 clear hall hbW e0 e1 e2 hw0 _hm
 cases q0:decide ((200:Int) < (m:Int)) with
 | true=>
  have HR:=Lh hR
  clear hR
  go_enter Tryz.func57,Tryz.ntmps57
  go_wp2_with fail
  go_ret
  exact ⟨ret_bool HR.out.symm,HW0.out⟩
 | false=>
  have HR:=Lh hR
  clear hR
  go_enter Tryz.func57,Tryz.ntmps57
  go_wp2_with fail
  go_ret
  exact ⟨ret_bool HR.out.symm,by rw [hW] at HB0;exact HB0.out⟩
end Go.Proofs.YtjonaidancomgaaGreatDoor

namespace Go.Proofs.YtjonaidancomgaaGreatDoor
open Go.RowKit

set_option maxRecDepth 20000 in
set_option maxHeartbeats 8000000 in
theorem rok5 (z:Int) (hz:decide ((16:Int) < z)=false) (b:Sx.Rule→Bool) (co n d:Int) (nm:List UInt8) (ks:List Sx.Rule) (A:Option Addr) (m c:Nat) (_hm:m=ks.length) (hn:nm.length≤140737488351232) (w:World)
  (hall:∀ W,Below w.heap.size w W→Blk W (w.heap.size+1) 3 #[.int .i64 z]→Calls Tryz.prog 147 #[.slice A m c,.func (.func 148) #[] #[.pointer (some ⟨w.heap.size+1,0,none⟩)]] W (BoolPost (!ks.all b) W)) :
  Calls Tryz.prog 57 #[.agg #[.int .i64 5,.int .i64 co,.string (Lx.bs nm),.int .i64 n,.int .i64 d,.slice A m c],.int .i64 z] w (BoolPost (!decide ((200:Int) < (m:Int)) && Sx.refOk nm co && Sx.inB n 0 12 && !decide (0 < m) && !(d != 0) && ks.all b) w):=by
 obtain ⟨R,hR⟩:∃ R:Bool,R=(!decide ((200:Int) < (m:Int)) && Sx.refOk nm co && Sx.inB n 0 12 && !decide (0 < m) && !(d != 0) && ks.all b):=⟨_,rfl⟩
 rw[←hR]
 have Hall:=Lh hall
 obtain ⟨W,hW⟩:∃ W,W=((w.alloc (.cells #[.int .i64 5,.int .i64 co,.string (Lx.bs nm),.int .i64 n,.int .i64 d,.slice A m c] 38)).alloc (.cells #[.int .i64 z] 3)).alloc (.cells #[.int .i64 0,.int .i64 co,.string (Lx.bs nm),.int .i64 n,.int .i64 d,.slice none 0 0] 38):=⟨_,rfl⟩
 have hbW:Below w.heap.size w W:=by
  rw[hW]
  exact ((Below.refl _ _).alloc (Nat.le_refl _) _).alloc (by simp) _ |>.alloc (by simp;omega) _
 have e0:Blk W w.heap.size 38 #[.int .i64 5,.int .i64 co,.string (Lx.bs nm),.int .i64 n,.int .i64 d,.slice A m c]:=by rw [hW];exact ((Blk.new w _ _).alloc _).alloc _
 have e1:Blk W (w.heap.size+1) 3 #[.int .i64 z]:=by rw [hW];exact (Blk.new_at _ _ (by simp)).alloc _
 have e2:Blk W (w.heap.size+1+1) 38 #[.int .i64 0,.int .i64 co,.string (Lx.bs nm),.int .i64 n,.int .i64 d,.slice none 0 0]:=by rw [hW];exact Blk.new_at _ _ (by simp)
 have hw0:Below w.heap.size w ((w.alloc (.cells #[.int .i64 5,.int .i64 co,.string (Lx.bs nm),.int .i64 n,.int .i64 d,.slice A m c] 38)).alloc (.cells #[.int .i64 z] 3)):=((Below.refl _ _).alloc (Nat.le_refl _) _).alloc (by simp) _
 have HB0:=Lh hbW;have E0:=Lh e0;have F0:=Lh e1;have G0:=Lh e2;have HW0:=Lh hw0
 have hbs:((Lx.bs nm).toList == (⟨#[]⟩:ByteArray).toList)=nm.isEmpty:=by rw [ByteArray.toList_eq,ByteArray.toList_eq,Lx.bs_list];cases nm <;> rfl
 have hbs2:(Lx.bs nm).toList.isEmpty=nm.isEmpty:=by rw [ByteArray.toList_eq,Lx.bs_list]
 clear hall hbW e0 e1 e2 hw0 _hm
 have K1:=Lh (fun (W:World) (_:Below w.heap.size w W)=>sRefOk nm co W hn)
 have K2:=Lh (fun (W:World) (_:Below w.heap.size w W)=>sIn n 0 12 W)
 have HR:=Lh hR
 clear hR
 go_enter Tryz.func57,Tryz.ntmps57
 cases q0:decide ((200:Int) < (m:Int)) with
 | true=>
  have HF:Hid (R=false):=Lh (by rw [HR.out,q0];simp)
  go_wp2_with fail
  go_ret
  exact ⟨ret_bool HF.out.symm,HW0.out⟩
 | false=>
 go_wp2_with fail
 rw[←hW]
 refine (K1.out _ HB0.out).mono ?_
 rintro e w1 ⟨rfl,hb⟩
 have HB1:=Lh (HB0.out.trans (hb.mono HB0.out.size))
 have y:=E0.out.below hb E0.out.lt;have yl:=F0.out.below hb F0.out.lt;have yr:=G0.out.below hb G0.out.lt
 have E1:=Lh y;have F1:=Lh yl;have G1:=Lh yr
 obtain ⟨x0,x1,x2,x3,x4,x5,_⟩:=cells6 y
 obtain ⟨r0,r1,r2,r3,r4,r5,z1⟩:=cells6 yr
 obtain ⟨rf0,rf1,rf2,rf3,rf4,rf5⟩:=frees6 yr
 have v0:=yl.cell 0
 simp at v0
 clear hb y yl yr
 cases q1:Sx.refOk nm co with
 | false=>
  have HF:Hid (R=false):=Lh (by rw [HR.out,q0,q1];simp)
  go_wp2_with fail
  go_ret
  exact ⟨ret_bool HF.out.symm,(Below.setCell (Below.setCell (Below.setCell HB1.out (by simp <;> omega) _) (by simp <;> omega) _) (by simp <;> omega) _)⟩
 | true=>
 have Q1:=Lh q1
 clear q1
 go_wp2_with fail
 refine (K2.out _ HB1.out).mono ?_
 rintro e w2 ⟨rfl,hb⟩
 have HB2:=Lh (HB1.out.trans (hb.mono HB1.out.size))
 have y:=E1.out.below hb E1.out.lt;have yl:=F1.out.below hb F1.out.lt;have yr:=G1.out.below hb G1.out.lt
 have E2:=Lh y;have F2:=Lh yl;have G2:=Lh yr
 obtain ⟨x0,x1,x2,x3,x4,x5,_⟩:=cells6 y
 obtain ⟨r0,r1,r2,r3,r4,r5,z2⟩:=cells6 yr
 obtain ⟨rf0,rf1,rf2,rf3,rf4,rf5⟩:=frees6 yr
 have v0:=yl.cell 0
 simp at v0
 clear hb y yl yr
 cases q2:Sx.inB n 0 12 with
 | false=>
  have HF:Hid (R=false):=Lh (by rw [HR.out,q0,Q1.out,q2];simp)
  go_wp2_with fail
  go_ret
  exact ⟨ret_bool HF.out.symm,(Below.setCell (Below.setCell (Below.setCell HB2.out (by simp <;> omega) _) (by simp <;> omega) _) (by simp <;> omega) _)⟩
 | true=>
 have Q2:=Lh q2
 clear q2
 cases q3:decide (0 < m) with
 | true=>
  have HF:Hid (R=false):=Lh (by rw [HR.out,q0,Q1.out,Q2.out,q3];simp)
  go_wp2_with fail
  go_ret
  exact ⟨ret_bool HF.out.symm,(Below.setCell (Below.setCell (Below.setCell HB2.out (by simp <;> omega) _) (by simp <;> omega) _) (by simp <;> omega) _)⟩
 | false=>
 cases q4:(d != 0) with
 | true=>
  have HF:Hid (R=false):=Lh (by rw [HR.out,q0,Q1.out,Q2.out,q3,q4];simp)
  go_wp2_with fail
  go_ret
  exact ⟨ret_bool HF.out.symm,(Below.setCell (Below.setCell (Below.setCell HB2.out (by simp <;> omega) _) (by simp <;> omega) _) (by simp <;> omega) _)⟩
 | false=>
 have HT:Hid (R=ks.all b):=Lh (by rw [HR.out,q0,Q1.out,Q2.out,q3,q4];simp)
 go_wp2_with fail
 refine (Hall.out _ (Below.setCell (Below.setCell (Below.setCell HB2.out (by simp <;> omega) _) (by simp <;> omega) _) (by simp <;> omega) _) (Blk.far (Blk.far (Blk.far F2.out (by simp <;> omega) _) (by simp <;> omega) _) (by simp <;> omega) _)).mono ?_
 rintro e w9 ⟨rfl,hb⟩
 have HB9:Hid (Below w.heap.size w w9):=Lh (Below.trans (Below.setCell (Below.setCell (Below.setCell HB2.out (by simp <;> omega) _) (by simp <;> omega) _) (by simp <;> omega) _) (hb.mono (Below.setCell (Below.setCell (Below.setCell HB2.out (by simp <;> omega) _) (by simp <;> omega) _) (by simp <;> omega) _).size))
 clear hb
 go_wp2_with fail
 go_ret
 exact ⟨ret_bool (by simp [HT.out]),HB9.out⟩
end Go.Proofs.YtjonaidancomgaaGreatDoor

namespace Go.Proofs.YtjonaidancomgaaGreatDoor
open Go.RowKit

set_option maxRecDepth 20000 in
set_option maxHeartbeats 4000000 in
theorem okCourse0 (nm:List UInt8) (no cr rp:Int) (a0 a1:Int) (a2:ByteArray) (a3 a4:Int) (aA:Option Addr) (an ac:Nat) (b0 b1:Int) (b2:ByteArray) (b3 b4:Int) (bA:Option Addr) (bn bc:Nat) (pn pb:Bool) (hn:nm.length≤140737488351232) (w:World) (hnd:∀ W,Below w.heap.size w W→Calls Tryz.prog 57 #[.agg #[.int .i64 a0,.int .i64 a1,.string a2,.int .i64 a3,.int .i64 a4,.slice aA an ac],.int .i64 1] W (BoolPost pn W)) (hbr:∀ W,Below w.heap.size w W→Calls Tryz.prog 57 #[.agg #[.int .i64 b0,.int .i64 b1,.string b2,.int .i64 b3,.int .i64 b4,.slice bA bn bc],.int .i64 1] W (BoolPost pb W)) :
  Calls Tryz.prog 122 #[.agg #[.string (Lx.bs nm),.int .i64 no,.int .i64 cr,.int .i64 rp,.int .i64 a0,.int .i64 a1,.string a2,.int .i64 a3,.int .i64 a4,.slice aA an ac,.int .i64 b0,.int .i64 b1,.string b2,.int .i64 b3,.int .i64 b4,.slice bA bn bc]] w (BoolPost (Sx.inB no 0 4095 && Lx.isName nm && Sx.inB cr 1 60 && Sx.inB rp 0 2 && pn && pb) w):=by
 obtain ⟨R,hR⟩:∃ R:Bool,R=(Sx.inB no 0 4095 && Lx.isName nm && Sx.inB cr 1 60 && Sx.inB rp 0 2 && pn && pb):=⟨_,rfl⟩
 rw[←hR]
 have hb0:Below w.heap.size w (w.alloc (.cells #[.string (Lx.bs nm),.int .i64 no,.int .i64 cr,.int .i64 rp,.int .i64 a0,.int .i64 a1,.string a2,.int .i64 a3,.int .i64 a4,.slice aA an ac,.int .i64 b0,.int .i64 b1,.string b2,.int .i64 b3,.int .i64 b4,.slice bA bn bc] 58)):=(Below.refl _ _).alloc (Nat.le_refl _) _
 have e0:Blk (w.alloc (.cells #[.string (Lx.bs nm),.int .i64 no,.int .i64 cr,.int .i64 rp,.int .i64 a0,.int .i64 a1,.string a2,.int .i64 a3,.int .i64 a4,.slice aA an ac,.int .i64 b0,.int .i64 b1,.string b2,.int .i64 b3,.int .i64 b4,.slice bA bn bc] 58)) w.heap.size 58 #[.string (Lx.bs nm),.int .i64 no,.int .i64 cr,.int .i64 rp,.int .i64 a0,.int .i64 a1,.string a2,.int .i64 a3,.int .i64 a4,.slice aA an ac,.int .i64 b0,.int .i64 b1,.string b2,.int .i64 b3,.int .i64 b4,.slice bA bn bc]:=Blk.new _ _ _
 have HB0:=Lh hb0
 have E0:=Lh e0
 clear hb0 e0
 have K0:=Lh (fun (W:World) (_:Below w.heap.size w W)=>sIn no 0 4095 W)
 have K1:=Lh (fun (W:World) (_:Below w.heap.size w W)=>sNameB nm W hn)
 have K2:=Lh (fun (W:World) (_:Below w.heap.size w W)=>sIn cr 1 60 W)
 have K3:=Lh (fun (W:World) (_:Below w.heap.size w W)=>sIn rp 0 2 W)
 have K4:=Lh (hnd)
 have K5:=Lh (hbr)
 have HR:=Lh hR
 clear hR
 go_enter Tryz.func122,Tryz.ntmps122
 go_wp2_with fail
 refine (K0.out _ HB0.out).mono ?_
 rintro e w1 ⟨rfl,hb⟩
 have HB1:=Lh (HB0.out.trans (hb.mono HB0.out.size))
 have y:=E0.out.below hb E0.out.lt
 have E1:=Lh y
 obtain ⟨x0,x1,x2,x3,x4,x5,x6,x7,x8,x9,x10,x11,x12,x13,x14,x15,z1⟩:=cells16 y
 clear hb y
 cases q0:Sx.inB no 0 4095 with
 | false=>
  have HF:Hid (R=false):=Lh (by rw [HR.out,q0];simp)
  go_wp2_with fail
  go_ret
  exact ⟨ret_bool HF.out.symm,HB1.out⟩
 | true=>
 have Q0:=Lh q0
 clear q0
 go_wp2_with fail
 refine (K1.out _ HB1.out).mono ?_
 rintro e w2 ⟨rfl,hb⟩
 have HB2:=Lh (HB1.out.trans (hb.mono HB1.out.size))
 have y:=E1.out.below hb E1.out.lt
 have E2:=Lh y
 obtain ⟨x0,x1,x2,x3,x4,x5,x6,x7,x8,x9,x10,x11,x12,x13,x14,x15,z2⟩:=cells16 y
 clear hb y
 cases q1:Lx.isName nm with
 | false=>
  have HF:Hid (R=false):=Lh (by rw [HR.out,Q0.out,q1];simp)
  go_wp2_with fail
  go_ret
  exact ⟨ret_bool HF.out.symm,HB2.out⟩
 | true=>
 have Q1:=Lh q1
 clear q1
 go_wp2_with fail
 refine (K2.out _ HB2.out).mono ?_
 rintro e w3 ⟨rfl,hb⟩
 have HB3:=Lh (HB2.out.trans (hb.mono HB2.out.size))
 have y:=E2.out.below hb E2.out.lt
 have E3:=Lh y
 obtain ⟨x0,x1,x2,x3,x4,x5,x6,x7,x8,x9,x10,x11,x12,x13,x14,x15,z3⟩:=cells16 y
 clear hb y
 cases q2:Sx.inB cr 1 60 with
 | false=>
  have HF:Hid (R=false):=Lh (by rw [HR.out,Q0.out,Q1.out,q2];simp)
  go_wp2_with fail
  go_ret
  exact ⟨ret_bool HF.out.symm,HB3.out⟩
 | true=>
 have Q2:=Lh q2
 clear q2
 go_wp2_with fail
 refine (K3.out _ HB3.out).mono ?_
 rintro e w4 ⟨rfl,hb⟩
 have HB4:=Lh (HB3.out.trans (hb.mono HB3.out.size))
 have y:=E3.out.below hb E3.out.lt
 have E4:=Lh y
 obtain ⟨x0,x1,x2,x3,x4,x5,x6,x7,x8,x9,x10,x11,x12,x13,x14,x15,z4⟩:=cells16 y
 clear hb y
 cases q3:Sx.inB rp 0 2 with
 | false=>
  have HF:Hid (R=false):=Lh (by rw [HR.out,Q0.out,Q1.out,Q2.out,q3];simp)
  go_wp2_with fail
  go_ret
  exact ⟨ret_bool HF.out.symm,HB4.out⟩
 | true=>
 have Q3:=Lh q3
 clear q3
 go_wp2_with fail
 refine (K4.out _ HB4.out).mono ?_
 rintro e w5 ⟨rfl,hb⟩
 have HB5:=Lh (HB4.out.trans (hb.mono HB4.out.size))
 have y:=E4.out.below hb E4.out.lt
 have E5:=Lh y
 obtain ⟨x0,x1,x2,x3,x4,x5,x6,x7,x8,x9,x10,x11,x12,x13,x14,x15,z5⟩:=cells16 y
 clear hb y
 cases q4:pn with
 | false=>
  have HF:Hid (R=false):=Lh (by rw [HR.out,Q0.out,Q1.out,Q2.out,Q3.out,q4];simp)
  go_wp2_with fail
  go_ret
  exact ⟨ret_bool HF.out.symm,HB5.out⟩
 | true=>
 have Q4:=Lh q4
 clear q4
 go_wp2_with fail
 refine (K5.out _ HB5.out).mono ?_
 rintro e w6 ⟨rfl,hb⟩
 have HB6:=Lh (HB5.out.trans (hb.mono HB5.out.size))
 have y:=E5.out.below hb E5.out.lt
 have E6:=Lh y
 obtain ⟨x0,x1,x2,x3,x4,x5,x6,x7,x8,x9,x10,x11,x12,x13,x14,x15,z6⟩:=cells16 y
 clear hb y
 have hR:=HR.out
 clear HR
 rw[Q0.out,Q1.out,Q2.out,Q3.out,Q4.out] at hR
 have HT:Hid (R=(pb)):=Lh (by rw [hR];simp)
 clear hR
 go_wp2_with fail
 go_ret
 exact ⟨ret_bool HT.out.symm,HB6.out⟩
set_option maxRecDepth 20000 in
set_option maxHeartbeats 4000000 in
theorem okCat0 (A0:Option Addr) (n0 c0:Nat) (b0:Bool) (A1:Option Addr) (n1 c1:Nat) (b1:Bool) (A2:Option Addr) (n2 c2:Nat) (b2:Bool) (A3:Option Addr) (n3 c3:Nat) (b3:Bool) (A4:Option Addr) (n4 c4:Nat) (b4:Bool) (A5:Option Addr) (n5 c5:Nat) (b5:Bool) (A6:Option Addr) (n6 c6:Nat) (b6:Bool) (w:World) (h0:∀ W,Below w.heap.size w W→Calls Tryz.prog 121 #[.slice A0 n0 c0,.func (.func 122) #[] #[]] W (BoolPost b0 W)) (h1:∀ W,Below w.heap.size w W→Calls Tryz.prog 123 #[.slice A1 n1 c1,.func (.func 115) #[] #[]] W (BoolPost b1 W)) (h2:∀ W,Below w.heap.size w W→Calls Tryz.prog 124 #[.slice A2 n2 c2,.func (.func 125) #[] #[]] W (BoolPost b2 W)) (h3:∀ W,Below w.heap.size w W→Calls Tryz.prog 126 #[.slice A3 n3 c3,.func (.func 127) #[] #[]] W (BoolPost b3 W)) (h4:∀ W,Below w.heap.size w W→Calls Tryz.prog 128 #[.slice A4 n4 c4,.func (.func 117) #[] #[]] W (BoolPost b4 W)) (h5:∀ W,Below w.heap.size w W→Calls Tryz.prog 126 #[.slice A5 n5 c5,.func (.func 127) #[] #[]] W (BoolPost b5 W)) (h6:∀ W,Below w.heap.size w W→Calls Tryz.prog 129 #[.slice A6 n6 c6,.func (.func 120) #[] #[]] W (BoolPost b6 W)) :
  Calls Tryz.prog 48 #[.agg #[.slice A0 n0 c0,.slice A1 n1 c1,.slice A2 n2 c2,.slice A3 n3 c3,.slice A4 n4 c4,.slice A5 n5 c5,.slice A6 n6 c6]] w (BoolPost (b0 && b1 && b2 && b3 && b4 && b5 && b6) w):=by
 obtain ⟨R,hR⟩:∃ R:Bool,R=(b0 && b1 && b2 && b3 && b4 && b5 && b6):=⟨_,rfl⟩
 rw[←hR]
 have hb0:Below w.heap.size w (w.alloc (.cells #[.slice A0 n0 c0,.slice A1 n1 c1,.slice A2 n2 c2,.slice A3 n3 c3,.slice A4 n4 c4,.slice A5 n5 c5,.slice A6 n6 c6] 30)):=(Below.refl _ _).alloc (Nat.le_refl _) _
 have e0:Blk (w.alloc (.cells #[.slice A0 n0 c0,.slice A1 n1 c1,.slice A2 n2 c2,.slice A3 n3 c3,.slice A4 n4 c4,.slice A5 n5 c5,.slice A6 n6 c6] 30)) w.heap.size 30 #[.slice A0 n0 c0,.slice A1 n1 c1,.slice A2 n2 c2,.slice A3 n3 c3,.slice A4 n4 c4,.slice A5 n5 c5,.slice A6 n6 c6]:=Blk.new _ _ _
 have HB0:=Lh hb0
 have E0:=Lh e0
 clear hb0 e0
 have K0:=Lh (h0)
 have K1:=Lh (h1)
 have K2:=Lh (h2)
 have K3:=Lh (h3)
 have K4:=Lh (h4)
 have K5:=Lh (h5)
 have K6:=Lh (h6)
 have HR:=Lh hR
 clear hR
 go_enter Tryz.func48,Tryz.ntmps48
 go_wp2_with fail
 refine (K0.out _ HB0.out).mono ?_
 rintro e w1 ⟨rfl,hb⟩
 have HB1:=Lh (HB0.out.trans (hb.mono HB0.out.size))
 have y:=E0.out.below hb E0.out.lt
 have E1:=Lh y
 obtain ⟨x0,x1,x2,x3,x4,x5,x6,z1⟩:=cells7 y
 clear hb y
 cases q0:b0 with
 | false=>
  have HF:Hid (R=false):=Lh (by rw [HR.out,q0];simp)
  go_wp2_with fail
  go_ret
  exact ⟨ret_bool HF.out.symm,HB1.out⟩
 | true=>
 have Q0:=Lh q0
 clear q0
 go_wp2_with fail
 refine (K1.out _ HB1.out).mono ?_
 rintro e w2 ⟨rfl,hb⟩
 have HB2:=Lh (HB1.out.trans (hb.mono HB1.out.size))
 have y:=E1.out.below hb E1.out.lt
 have E2:=Lh y
 obtain ⟨x0,x1,x2,x3,x4,x5,x6,z2⟩:=cells7 y
 clear hb y
 cases q1:b1 with
 | false=>
  have HF:Hid (R=false):=Lh (by rw [HR.out,Q0.out,q1];simp)
  go_wp2_with fail
  go_ret
  exact ⟨ret_bool HF.out.symm,HB2.out⟩
 | true=>
 have Q1:=Lh q1
 clear q1
 go_wp2_with fail
 refine (K2.out _ HB2.out).mono ?_
 rintro e w3 ⟨rfl,hb⟩
 have HB3:=Lh (HB2.out.trans (hb.mono HB2.out.size))
 have y:=E2.out.below hb E2.out.lt
 have E3:=Lh y
 obtain ⟨x0,x1,x2,x3,x4,x5,x6,z3⟩:=cells7 y
 clear hb y
 cases q2:b2 with
 | false=>
  have HF:Hid (R=false):=Lh (by rw [HR.out,Q0.out,Q1.out,q2];simp)
  go_wp2_with fail
  go_ret
  exact ⟨ret_bool HF.out.symm,HB3.out⟩
 | true=>
 have Q2:=Lh q2
 clear q2
 go_wp2_with fail
 refine (K3.out _ HB3.out).mono ?_
 rintro e w4 ⟨rfl,hb⟩
 have HB4:=Lh (HB3.out.trans (hb.mono HB3.out.size))
 have y:=E3.out.below hb E3.out.lt
 have E4:=Lh y
 obtain ⟨x0,x1,x2,x3,x4,x5,x6,z4⟩:=cells7 y
 clear hb y
 cases q3:b3 with
 | false=>
  have HF:Hid (R=false):=Lh (by rw [HR.out,Q0.out,Q1.out,Q2.out,q3];simp)
  go_wp2_with fail
  go_ret
  exact ⟨ret_bool HF.out.symm,HB4.out⟩
 | true=>
 have Q3:=Lh q3
 clear q3
 go_wp2_with fail
 refine (K4.out _ HB4.out).mono ?_
 rintro e w5 ⟨rfl,hb⟩
 have HB5:=Lh (HB4.out.trans (hb.mono HB4.out.size))
 have y:=E4.out.below hb E4.out.lt
 have E5:=Lh y
 obtain ⟨x0,x1,x2,x3,x4,x5,x6,z5⟩:=cells7 y
 clear hb y
 cases q4:b4 with
 | false=>
  have HF:Hid (R=false):=Lh (by rw [HR.out,Q0.out,Q1.out,Q2.out,Q3.out,q4];simp)
  go_wp2_with fail
  go_ret
  exact ⟨ret_bool HF.out.symm,HB5.out⟩
 | true=>
 have Q4:=Lh q4
 clear q4
 go_wp2_with fail
 refine (K5.out _ HB5.out).mono ?_
 rintro e w6 ⟨rfl,hb⟩
 have HB6:=Lh (HB5.out.trans (hb.mono HB5.out.size))
 have y:=E5.out.below hb E5.out.lt
 have E6:=Lh y
 obtain ⟨x0,x1,x2,x3,x4,x5,x6,z6⟩:=cells7 y
 clear hb y
 cases q5:b5 with
 | false=>
  have HF:Hid (R=false):=Lh (by rw [HR.out,Q0.out,Q1.out,Q2.out,Q3.out,Q4.out,q5];simp)
  go_wp2_with fail
  go_ret
  exact ⟨ret_bool HF.out.symm,HB6.out⟩
 | true=>
 have Q5:=Lh q5
 clear q5
 go_wp2_with fail
 refine (K6.out _ HB6.out).mono ?_
 rintro e w7 ⟨rfl,hb⟩
 have HB7:=Lh (HB6.out.trans (hb.mono HB6.out.size))
 have y:=E6.out.below hb E6.out.lt
 have E7:=Lh y
 obtain ⟨x0,x1,x2,x3,x4,x5,x6,z7⟩:=cells7 y
 clear hb y
 have hR:=HR.out
 clear HR
 rw[Q0.out,Q1.out,Q2.out,Q3.out,Q4.out,Q5.out] at hR
 have HT:Hid (R=(b6)):=Lh (by rw [hR];simp)
 clear hR
 go_wp2_with fail
 go_ret
 exact ⟨ret_bool HT.out.symm,HB7.out⟩
end Go.Proofs.YtjonaidancomgaaGreatDoor
