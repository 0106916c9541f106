/- Parts of the proof, joined into one text: SxAll. -/
import Derived.Test.YtjonaidancomgaaGreatDoorBSxOk
import Derived.Test.YtjonaidancomgaaGreatDoorBSxEqs
import Derived.Deep.LoopGhost

namespace Go.Proofs.YtjonaidancomgaaGreatDoor
open Go.RowKit

theorem old_keep {w w':World} (hb:Below w.heap.size w w'):∀ b,Old w b→Old w' b∧∀ i,w'.cell? ⟨b,i,none⟩=w.cell? ⟨b,i,none⟩:=fun b hb1=>⟨Nat.lt_of_lt_of_le hb1 hb.size,fun i=>hb.cell (p:=⟨b,i,none⟩) hb1⟩
def IdxPost (R:Bool) (w:World) (e:Ending) (w':World):Prop:=∃ z:Int,e = .returned (.int .i64 z)∧decide (0≤z)=R∧Below w.heap.size w w'
theorem all_no {α:Type} {l:List α} {b:α→Bool} {i:Nat} {x:α} (h:l[i]?=some x) (hb:b x=false):l.all b=false:=by
 rw[List.all_eq_false]
 exact ⟨x,List.mem_of_getElem? h,by simp [hb]⟩
theorem all_yes {α:Type} {l:List α} {b:α→Bool} (h:∀ j x,j < l.length→l[j]?=some x→b x=true):l.all b=true:=by
 rw[List.all_eq_true]
 intro x hx
 obtain ⟨j,hj,e⟩:=List.mem_iff_getElem.1 hx
 exact h j x hj (by rw [List.getElem?_eq_getElem hj,e])
theorem form_rule {w:World} {S:Nat→Prop} {x:Sx.Rule} {cs:List Value} (h:RuleAt w S x cs):∃ (i0:Int) (i1:Int) (s2:ByteArray) (i3:Int) (i4:Int) (A5:Option Addr) (n5 c5:Nat),cs = [.int .i64 i0,.int .i64 i1,.string s2,.int .i64 i3,.int .i64 i4,.slice A5 n5 c5]:=by
 cases x
 rw[RuleAt] at h
 obtain ⟨A,c,rfl,_⟩:=h
 exact ⟨_,_,_,_,_,_,_,_,rfl⟩
theorem old_rule {w w':World} {x:Sx.Rule} {cs:List Value} (hb:Below w.heap.size w w') (h:RuleAt w (Old w) x cs):RuleAt w' (Old w') x cs:=RuleAt.old h hb
set_option maxRecDepth 20000 in
set_option maxHeartbeats 4000000 in
theorem idx_rule (A:Option Addr) (c:Nat) (l:List Sx.Rule) (bx:Nat) (b:Sx.Rule→Bool) (w:World) (hl:Row w (Old w) A 6 (RuleAt w (Old w)) l)
  (HC:∀ x∈l,∀ cs W,Below w.heap.size w W→RuleAt W (Old W) x cs→Calls Tryz.prog 148 #[.agg cs.toArray,.pointer (some ⟨bx,0,none⟩)] W (BoolPost (!b x) W)) :
  Calls Tryz.prog 194 #[.slice A l.length c,.func (.func 148) #[] #[.pointer (some ⟨bx,0,none⟩)]] w (IdxPost (!l.all b) w):=by
 obtain ⟨m,hm⟩:∃ m,m=l.length:=⟨_,rfl⟩
 obtain ⟨R,hR⟩:∃ R,R = !l.all b:=⟨_,rfl⟩
 have z0:=hl.len
 rw[←hm] at z0 ⊢
 rw[←hR]
 have Hl:=Lh hl;have Hm:=Lh hm;have HR:=Lh hR;have HC':=Lh HC
 clear hl hm hR HC
 go_enter Tryz.func194,Tryz.ntmps194
 go_wp2_with fail
 go_loopg [8] m (fun gk v8 wr=>∃ i:Nat,v8 = .int .i64 i∧i+gk=m∧Hid (Below w.heap.size w wr)∧Hid (∀ j x,j < i→l[j]?=some x→b x=true))
 case atStart=>exact ⟨0,rfl,by omega,Lh (Below.refl _ _),Lh (fun j x hj=>absurd hj (Nat.not_lt_zero j))⟩
 case round=>
  obtain ⟨i,rfl,hi,Hb,Hag⟩:=hrel
  have hws:=Hb.out.size
  by_cases hlt:i < m
  ·obtain ⟨x,hx⟩:∃ x,l[i]?=some x:=⟨_,List.getElem?_eq_getElem (by have:=Hm.out;omega)⟩
   have Hx:=Lh hx
   obtain ⟨bk,ok,cs,rfl,hS,hP,hck⟩:=Hl.out.at_ i x hx
   have hcall:=HC'.out x (List.mem_of_getElem? hx) cs
   have hP':=old_rule Hb.out hP
   obtain ⟨i0,i1,s2,i3,i4,A5,n5,c5,rfl⟩:=form_rule hP
   have k0:=(Hb.out.cell (p:=⟨bk,_,none⟩) hS).trans (hck 0 _ rfl)
   have k1:=(Hb.out.cell (p:=⟨bk,_,none⟩) hS).trans (hck 1 _ rfl)
   have k2:=(Hb.out.cell (p:=⟨bk,_,none⟩) hS).trans (hck 2 _ rfl)
   have k3:=(Hb.out.cell (p:=⟨bk,_,none⟩) hS).trans (hck 3 _ rfl)
   have k4:=(Hb.out.cell (p:=⟨bk,_,none⟩) hS).trans (hck 4 _ rfl)
   have k5:=(Hb.out.cell (p:=⟨bk,_,none⟩) hS).trans (hck 5 _ rfl)
   simp only[Nat.add_zero] at k0 k1 k2 k3 k4 k5
   have Hcall:=Lh (hcall wr Hb.out hP')
   clear hcall hP hP' hck hx
   cases hq:b x with
   | false=>
    rw[hq] at Hcall
    have HR2:Hid (R=true):=Lh (by rw [HR.out,all_no Hx.out hq];rfl)
    clear hq
    go_wp2_with fail
    refine Hcall.out.mono ?_
    rintro e w5 ⟨rfl,hb5⟩
    have Hb5:=Lh hb5
    clear hb5
    go_wp2_with fail
    go_ret
    exact ⟨i,ret_int rfl,by rw [HR2.out];simp,Hb.out.trans (Hb5.out.mono hws)⟩
   | true=>
    rw[hq] at Hcall
    have Hq:=Lh hq
    clear hq
    go_wp2_with fail
    refine Hcall.out.mono ?_
    rintro e w5 ⟨rfl,hb5⟩
    have Hb5:=Lh hb5
    clear hb5
    go_wp2_with fail
    go_roundg (gk - 1)
    all_goals first
     | omega
     | exact ⟨i+1,by go_num,by omega,Lh (Hb.out.trans (Hb5.out.mono hws)),Lh (fun j y hj h1=>by
       rcases Nat.lt_or_ge j i with h3 | h3
       ·exact Hag.out j y h3 h1
       ·obtain rfl:j=i:=by omega
        rw[Hx.out] at h1
        injection h1 with h1
        rw[←h1];exact Hq.out)⟩
  ·obtain rfl:i=m:=by omega
   have HR2:Hid (R=false):=Lh (by rw [HR.out,all_yes fun j x hj h=>Hag.out j x (by have:=Hm.out;omega) h];rfl)
   go_wp2_with fail
   go_ret
   exact ⟨-1,ret_int rfl,by rw [HR2.out];rfl,Hb.out⟩
theorem has_rule (A:Option Addr) (c:Nat) (l:List Sx.Rule) (bx:Nat) (b:Sx.Rule→Bool) (w:World) (hl:Row w (Old w) A 6 (RuleAt w (Old w)) l)
  (HC:∀ x∈l,∀ cs W,Below w.heap.size w W→RuleAt W (Old W) x cs→Calls Tryz.prog 148 #[.agg cs.toArray,.pointer (some ⟨bx,0,none⟩)] W (BoolPost (!b x) W)) :
  Calls Tryz.prog 147 #[.slice A l.length c,.func (.func 148) #[] #[.pointer (some ⟨bx,0,none⟩)]] w (BoolPost (!l.all b) w):=by
 have Hc:=Lh (idx_rule A c l bx b w hl HC)
 obtain ⟨R,hR⟩:∃ R,R = !l.all b:=⟨_,rfl⟩
 obtain ⟨m,hm⟩:∃ m,m=l.length:=⟨_,rfl⟩
 rw[←hR,←hm] at Hc ⊢
 clear hl HC hR hm
 go_enter Tryz.func147,Tryz.ntmps147
 go_wp2_with fail
 refine Hc.out.mono ?_
 rintro e w1 ⟨z,rfl,hz,hb1⟩
 have Hz:=Lh hz;have Hb1:=Lh hb1
 clear hz hb1
 go_wp2_with fail
 go_ret
 exact ⟨ret_bool Hz.out,Hb1.out⟩
theorem form_course {w:World} {S:Nat→Prop} {x:Sx.Course} {cs:List Value} (h:CourseAt w S x cs):∃ (s0:ByteArray) (i1:Int) (i2:Int) (i3:Int) (i4:Int) (i5:Int) (s6:ByteArray) (i7:Int) (i8:Int) (A9:Option Addr) (n9 c9:Nat) (i10:Int) (i11:Int) (s12:ByteArray) (i13:Int) (i14:Int) (A15:Option Addr) (n15 c15:Nat),cs = [.string s0,.int .i64 i1,.int .i64 i2,.int .i64 i3,.int .i64 i4,.int .i64 i5,.string s6,.int .i64 i7,.int .i64 i8,.slice A9 n9 c9,.int .i64 i10,.int .i64 i11,.string s12,.int .i64 i13,.int .i64 i14,.slice A15 n15 c15]:=by
 obtain ⟨cn,cb,rfl,_,h3,h4⟩:=h
 obtain ⟨i0,i1,s2,i3,i4,A5,n5,c5,rfl⟩:=form_rule h3
 obtain ⟨j0,j1,t2,j3,j4,B5,m5,d5,rfl⟩:=form_rule h4
 exact ⟨_,_,_,_,_,_,_,_,_,_,_,_,_,_,_,_,_,_,_,_,rfl⟩
theorem old_course {w w':World} {x:Sx.Course} {cs:List Value} (hb:Below w.heap.size w w') (h:CourseAt w (Old w) x cs):CourseAt w' (Old w') x cs:=CourseAt.keep (old_keep hb) h
set_option maxRecDepth 20000 in
set_option maxHeartbeats 4000000 in
theorem idx_course (A:Option Addr) (c:Nat) (l:List Sx.Course) (bx:Nat) (b:Sx.Course→Bool) (w:World) (hl:Row w (Old w) A 16 (CourseAt w (Old w)) l)
  (HC:∀ x∈l,∀ cs W,Below w.heap.size w W→CourseAt W (Old W) x cs→Calls Tryz.prog 175 #[.agg cs.toArray,.pointer (some ⟨bx,0,none⟩)] W (BoolPost (!b x) W)) :
  Calls Tryz.prog 204 #[.slice A l.length c,.func (.func 175) #[] #[.pointer (some ⟨bx,0,none⟩)]] w (IdxPost (!l.all b) w):=by
 obtain ⟨m,hm⟩:∃ m,m=l.length:=⟨_,rfl⟩
 obtain ⟨R,hR⟩:∃ R,R = !l.all b:=⟨_,rfl⟩
 have z0:=hl.len
 rw[←hm] at z0 ⊢
 rw[←hR]
 have Hl:=Lh hl;have Hm:=Lh hm;have HR:=Lh hR;have HC':=Lh HC
 clear hl hm hR HC
 go_enter Tryz.func204,Tryz.ntmps204
 go_wp2_with fail
 go_loopg [8] m (fun gk v8 wr=>∃ i:Nat,v8 = .int .i64 i∧i+gk=m∧Hid (Below w.heap.size w wr)∧Hid (∀ j x,j < i→l[j]?=some x→b x=true))
 case atStart=>exact ⟨0,rfl,by omega,Lh (Below.refl _ _),Lh (fun j x hj=>absurd hj (Nat.not_lt_zero j))⟩
 case round=>
  obtain ⟨i,rfl,hi,Hb,Hag⟩:=hrel
  have hws:=Hb.out.size
  by_cases hlt:i < m
  ·obtain ⟨x,hx⟩:∃ x,l[i]?=some x:=⟨_,List.getElem?_eq_getElem (by have:=Hm.out;omega)⟩
   have Hx:=Lh hx
   obtain ⟨bk,ok,cs,rfl,hS,hP,hck⟩:=Hl.out.at_ i x hx
   have hcall:=HC'.out x (List.mem_of_getElem? hx) cs
   have hP':=old_course Hb.out hP
   obtain ⟨s0,i1,i2,i3,i4,i5,s6,i7,i8,A9,n9,c9,i10,i11,s12,i13,i14,A15,n15,c15,rfl⟩:=form_course hP
   have k0:=(Hb.out.cell (p:=⟨bk,_,none⟩) hS).trans (hck 0 _ rfl)
   have k1:=(Hb.out.cell (p:=⟨bk,_,none⟩) hS).trans (hck 1 _ rfl)
   have k2:=(Hb.out.cell (p:=⟨bk,_,none⟩) hS).trans (hck 2 _ rfl)
   have k3:=(Hb.out.cell (p:=⟨bk,_,none⟩) hS).trans (hck 3 _ rfl)
   have k4:=(Hb.out.cell (p:=⟨bk,_,none⟩) hS).trans (hck 4 _ rfl)
   have k5:=(Hb.out.cell (p:=⟨bk,_,none⟩) hS).trans (hck 5 _ rfl)
   have k6:=(Hb.out.cell (p:=⟨bk,_,none⟩) hS).trans (hck 6 _ rfl)
   have k7:=(Hb.out.cell (p:=⟨bk,_,none⟩) hS).trans (hck 7 _ rfl)
   have k8:=(Hb.out.cell (p:=⟨bk,_,none⟩) hS).trans (hck 8 _ rfl)
   have k9:=(Hb.out.cell (p:=⟨bk,_,none⟩) hS).trans (hck 9 _ rfl)
   have k10:=(Hb.out.cell (p:=⟨bk,_,none⟩) hS).trans (hck 10 _ rfl)
   have k11:=(Hb.out.cell (p:=⟨bk,_,none⟩) hS).trans (hck 11 _ rfl)
   have k12:=(Hb.out.cell (p:=⟨bk,_,none⟩) hS).trans (hck 12 _ rfl)
   have k13:=(Hb.out.cell (p:=⟨bk,_,none⟩) hS).trans (hck 13 _ rfl)
   have k14:=(Hb.out.cell (p:=⟨bk,_,none⟩) hS).trans (hck 14 _ rfl)
   have k15:=(Hb.out.cell (p:=⟨bk,_,none⟩) hS).trans (hck 15 _ rfl)
   simp only[Nat.add_zero] at k0 k1 k2 k3 k4 k5 k6 k7 k8 k9 k10 k11 k12 k13 k14 k15
   have Hcall:=Lh (hcall wr Hb.out hP')
   clear hcall hP hP' hck hx
   cases hq:b x with
   | false=>
    rw[hq] at Hcall
    have HR2:Hid (R=true):=Lh (by rw [HR.out,all_no Hx.out hq];rfl)
    clear hq
    go_wp2_with fail
    refine Hcall.out.mono ?_
    rintro e w5 ⟨rfl,hb5⟩
    have Hb5:=Lh hb5
    clear hb5
    go_wp2_with fail
    go_ret
    exact ⟨i,ret_int rfl,by rw [HR2.out];simp,Hb.out.trans (Hb5.out.mono hws)⟩
   | true=>
    rw[hq] at Hcall
    have Hq:=Lh hq
    clear hq
    go_wp2_with fail
    refine Hcall.out.mono ?_
    rintro e w5 ⟨rfl,hb5⟩
    have Hb5:=Lh hb5
    clear hb5
    go_wp2_with fail
    go_roundg (gk - 1)
    all_goals first
     | omega
     | exact ⟨i+1,by go_num,by omega,Lh (Hb.out.trans (Hb5.out.mono hws)),Lh (fun j y hj h1=>by
       rcases Nat.lt_or_ge j i with h3 | h3
       ·exact Hag.out j y h3 h1
       ·obtain rfl:j=i:=by omega
        rw[Hx.out] at h1
        injection h1 with h1
        rw[←h1];exact Hq.out)⟩
  ·obtain rfl:i=m:=by omega
   have HR2:Hid (R=false):=Lh (by rw [HR.out,all_yes fun j x hj h=>Hag.out j x (by have:=Hm.out;omega) h];rfl)
   go_wp2_with fail
   go_ret
   exact ⟨-1,ret_int rfl,by rw [HR2.out];rfl,Hb.out⟩
theorem has_course (A:Option Addr) (c:Nat) (l:List Sx.Course) (bx:Nat) (b:Sx.Course→Bool) (w:World) (hl:Row w (Old w) A 16 (CourseAt w (Old w)) l)
  (HC:∀ x∈l,∀ cs W,Below w.heap.size w W→CourseAt W (Old W) x cs→Calls Tryz.prog 175 #[.agg cs.toArray,.pointer (some ⟨bx,0,none⟩)] W (BoolPost (!b x) W)) :
  Calls Tryz.prog 174 #[.slice A l.length c,.func (.func 175) #[] #[.pointer (some ⟨bx,0,none⟩)]] w (BoolPost (!l.all b) w):=by
 have Hc:=Lh (idx_course A c l bx b w hl HC)
 obtain ⟨R,hR⟩:∃ R,R = !l.all b:=⟨_,rfl⟩
 obtain ⟨m,hm⟩:∃ m,m=l.length:=⟨_,rfl⟩
 rw[←hR,←hm] at Hc ⊢
 clear hl HC hR hm
 go_enter Tryz.func174,Tryz.ntmps174
 go_wp2_with fail
 refine Hc.out.mono ?_
 rintro e w1 ⟨z,rfl,hz,hb1⟩
 have Hz:=Lh hz;have Hb1:=Lh hb1
 clear hz hb1
 go_wp2_with fail
 go_ret
 exact ⟨ret_bool Hz.out,Hb1.out⟩
set_option maxRecDepth 20000 in
set_option maxHeartbeats 2000000 in
theorem clo_course (x:Sx.Course) (cs:List Value) (bx:Nat) (b:Bool) (w:World) (hbx:Blk w bx 177 #[.func (.func 122) #[] #[]]) (hP:CourseAt w (Old w) x cs)
  (H:∀ W,Below w.heap.size w W→CourseAt W (Old W) x cs→Calls Tryz.prog 122 #[.agg cs.toArray] W (BoolPost b W)) :
  Calls Tryz.prog 175 #[.agg cs.toArray,.pointer (some ⟨bx,0,none⟩)] w (BoolPost (!b) w):=by
 have c0:=hbx.cell 0
 have hlt:=hbx.lt
 simp at c0
 have hP':=hP
 obtain ⟨s0,i1,i2,i3,i4,i5,s6,i7,i8,A9,n9,c9,i10,i11,s12,i13,i14,A15,n15,c15,rfl⟩:=form_course hP
 have hbw:Below w.heap.size w (w.alloc (.cells #[.string s0,.int .i64 i1,.int .i64 i2,.int .i64 i3,.int .i64 i4,.int .i64 i5,.string s6,.int .i64 i7,.int .i64 i8,.slice A9 n9 c9,.int .i64 i10,.int .i64 i11,.string s12,.int .i64 i13,.int .i64 i14,.slice A15 n15 c15] 58)):=(Below.refl _ _).alloc (Nat.le_refl _) _
 have Hc:=Lh (H _ hbw (old_course hbw hP'))
 have Hbw:=Lh hbw
 clear H hbw hP hP' hbx
 go_enter Tryz.func175,Tryz.ntmps175
 go_wp2_with fail
 refine Hc.out.mono ?_
 rintro e w1 ⟨rfl,hb1⟩
 have Hb1:=Lh (Hbw.out.trans (hb1.mono Hbw.out.size))
 clear hb1
 go_wp2_with fail
 go_ret
 exact ⟨ret_bool rfl,Hb1.out⟩
set_option maxRecDepth 20000 in
set_option maxHeartbeats 2000000 in
theorem all_course (A:Option Addr) (c:Nat) (l:List Sx.Course) (b:Sx.Course→Bool) (w:World) (hl:Row w (Old w) A 16 (CourseAt w (Old w)) l)
  (H:∀ x∈l,∀ cs W,Below w.heap.size w W→CourseAt W (Old W) x cs→Calls Tryz.prog 122 #[.agg cs.toArray] W (BoolPost (b x) W)) :
  Calls Tryz.prog 121 #[.slice A l.length c,.func (.func 122) #[] #[]] w (BoolPost (l.all b) w):=by
 have hbw:Below w.heap.size w (w.alloc (.cells #[.func (.func 122) #[] #[]] 177)):=(Below.refl _ _).alloc (Nat.le_refl _) _
 have hbx:Blk (w.alloc (.cells #[.func (.func 122) #[] #[]] 177)) w.heap.size 177 #[.func (.func 122) #[] #[]]:=Blk.new _ _ _
 have Hc:=Lh (has_course A c l w.heap.size b _ (hl.keep (P':=CourseAt (w.alloc (.cells #[.func (.func 122) #[] #[]] 177)) (Old (w.alloc (.cells #[.func (.func 122) #[] #[]] 177)))) (old_keep hbw) fun _ _ _ h=>old_course hbw h) (fun x hx cs W hW hP=>clo_course x cs w.heap.size (b x) W (hbx.below hW hbx.lt) hP (fun W' hW' hP'=>H x hx cs W' (hbw.trans ((hW.mono hbw.size).trans (hW'.mono (Nat.le_trans hbw.size hW.size)))) hP')))
 obtain ⟨m,hm⟩:∃ m,m=l.length:=⟨_,rfl⟩
 obtain ⟨R,hR⟩:∃ R,R=l.all b:=⟨_,rfl⟩
 rw[←hR,←hm] at Hc
 rw[←hR,←hm]
 have Hbw:=Lh hbw
 clear H hbw hbx hl hm hR
 go_enter Tryz.func121,Tryz.ntmps121
 go_wp2_with fail
 refine Hc.out.mono ?_
 rintro e w1 ⟨rfl,hb1⟩
 have Hb1:=Lh (Hbw.out.trans (hb1.mono Hbw.out.size))
 clear hb1
 go_wp2_with fail
 go_ret
 exact ⟨ret_bool (by simp),Hb1.out⟩
theorem form_pair {x:Sx.Pair} {cs:List Value} (h:PairAt x cs):∃ (s0:ByteArray) (s1:ByteArray) (i2:Int) (i3:Int),cs = [.string s0,.string s1,.int .i64 i2,.int .i64 i3]:=by
 obtain ⟨rfl,_,_⟩:=h
 exact ⟨_,_,_,_,rfl⟩
theorem old_pair {w w':World} {x:Sx.Pair} {cs:List Value} (_hb:Below w.heap.size w w') (h:PairAt x cs):PairAt x cs:=h
set_option maxRecDepth 20000 in
set_option maxHeartbeats 4000000 in
theorem idx_pair (A:Option Addr) (c:Nat) (l:List Sx.Pair) (bx:Nat) (b:Sx.Pair→Bool) (w:World) (hl:Row w (Old w) A 4 (PairAt) l)
  (HC:∀ x∈l,∀ cs W,Below w.heap.size w W→PairAt x cs→Calls Tryz.prog 177 #[.agg cs.toArray,.pointer (some ⟨bx,0,none⟩)] W (BoolPost (!b x) W)) :
  Calls Tryz.prog 205 #[.slice A l.length c,.func (.func 177) #[] #[.pointer (some ⟨bx,0,none⟩)]] w (IdxPost (!l.all b) w):=by
 obtain ⟨m,hm⟩:∃ m,m=l.length:=⟨_,rfl⟩
 obtain ⟨R,hR⟩:∃ R,R = !l.all b:=⟨_,rfl⟩
 have z0:=hl.len
 rw[←hm] at z0 ⊢
 rw[←hR]
 have Hl:=Lh hl;have Hm:=Lh hm;have HR:=Lh hR;have HC':=Lh HC
 clear hl hm hR HC
 go_enter Tryz.func205,Tryz.ntmps205
 go_wp2_with fail
 go_loopg [8] m (fun gk v8 wr=>∃ i:Nat,v8 = .int .i64 i∧i+gk=m∧Hid (Below w.heap.size w wr)∧Hid (∀ j x,j < i→l[j]?=some x→b x=true))
 case atStart=>exact ⟨0,rfl,by omega,Lh (Below.refl _ _),Lh (fun j x hj=>absurd hj (Nat.not_lt_zero j))⟩
 case round=>
  obtain ⟨i,rfl,hi,Hb,Hag⟩:=hrel
  have hws:=Hb.out.size
  by_cases hlt:i < m
  ·obtain ⟨x,hx⟩:∃ x,l[i]?=some x:=⟨_,List.getElem?_eq_getElem (by have:=Hm.out;omega)⟩
   have Hx:=Lh hx
   obtain ⟨bk,ok,cs,rfl,hS,hP,hck⟩:=Hl.out.at_ i x hx
   have hcall:=HC'.out x (List.mem_of_getElem? hx) cs
   have hP':=old_pair Hb.out hP
   obtain ⟨s0,s1,i2,i3,rfl⟩:=form_pair hP
   have k0:=(Hb.out.cell (p:=⟨bk,_,none⟩) hS).trans (hck 0 _ rfl)
   have k1:=(Hb.out.cell (p:=⟨bk,_,none⟩) hS).trans (hck 1 _ rfl)
   have k2:=(Hb.out.cell (p:=⟨bk,_,none⟩) hS).trans (hck 2 _ rfl)
   have k3:=(Hb.out.cell (p:=⟨bk,_,none⟩) hS).trans (hck 3 _ rfl)
   simp only[Nat.add_zero] at k0 k1 k2 k3
   have Hcall:=Lh (hcall wr Hb.out hP')
   clear hcall hP hP' hck hx
   cases hq:b x with
   | false=>
    rw[hq] at Hcall
    have HR2:Hid (R=true):=Lh (by rw [HR.out,all_no Hx.out hq];rfl)
    clear hq
    go_wp2_with fail
    refine Hcall.out.mono ?_
    rintro e w5 ⟨rfl,hb5⟩
    have Hb5:=Lh hb5
    clear hb5
    go_wp2_with fail
    go_ret
    exact ⟨i,ret_int rfl,by rw [HR2.out];simp,Hb.out.trans (Hb5.out.mono hws)⟩
   | true=>
    rw[hq] at Hcall
    have Hq:=Lh hq
    clear hq
    go_wp2_with fail
    refine Hcall.out.mono ?_
    rintro e w5 ⟨rfl,hb5⟩
    have Hb5:=Lh hb5
    clear hb5
    go_wp2_with fail
    go_roundg (gk - 1)
    all_goals first
     | omega
     | exact ⟨i+1,by go_num,by omega,Lh (Hb.out.trans (Hb5.out.mono hws)),Lh (fun j y hj h1=>by
       rcases Nat.lt_or_ge j i with h3 | h3
       ·exact Hag.out j y h3 h1
       ·obtain rfl:j=i:=by omega
        rw[Hx.out] at h1
        injection h1 with h1
        rw[←h1];exact Hq.out)⟩
  ·obtain rfl:i=m:=by omega
   have HR2:Hid (R=false):=Lh (by rw [HR.out,all_yes fun j x hj h=>Hag.out j x (by have:=Hm.out;omega) h];rfl)
   go_wp2_with fail
   go_ret
   exact ⟨-1,ret_int rfl,by rw [HR2.out];rfl,Hb.out⟩
theorem has_pair (A:Option Addr) (c:Nat) (l:List Sx.Pair) (bx:Nat) (b:Sx.Pair→Bool) (w:World) (hl:Row w (Old w) A 4 (PairAt) l)
  (HC:∀ x∈l,∀ cs W,Below w.heap.size w W→PairAt x cs→Calls Tryz.prog 177 #[.agg cs.toArray,.pointer (some ⟨bx,0,none⟩)] W (BoolPost (!b x) W)) :
  Calls Tryz.prog 176 #[.slice A l.length c,.func (.func 177) #[] #[.pointer (some ⟨bx,0,none⟩)]] w (BoolPost (!l.all b) w):=by
 have Hc:=Lh (idx_pair A c l bx b w hl HC)
 obtain ⟨R,hR⟩:∃ R,R = !l.all b:=⟨_,rfl⟩
 obtain ⟨m,hm⟩:∃ m,m=l.length:=⟨_,rfl⟩
 rw[←hR,←hm] at Hc ⊢
 clear hl HC hR hm
 go_enter Tryz.func176,Tryz.ntmps176
 go_wp2_with fail
 refine Hc.out.mono ?_
 rintro e w1 ⟨z,rfl,hz,hb1⟩
 have Hz:=Lh hz;have Hb1:=Lh hb1
 clear hz hb1
 go_wp2_with fail
 go_ret
 exact ⟨ret_bool Hz.out,Hb1.out⟩
set_option maxRecDepth 20000 in
set_option maxHeartbeats 2000000 in
theorem clo_pair (x:Sx.Pair) (cs:List Value) (bx:Nat) (b:Bool) (w:World) (hbx:Blk w bx 172 #[.func (.func 115) #[] #[]]) (hP:PairAt x cs)
  (H:∀ W,Below w.heap.size w W→PairAt x cs→Calls Tryz.prog 115 #[.agg cs.toArray] W (BoolPost b W)) :
  Calls Tryz.prog 177 #[.agg cs.toArray,.pointer (some ⟨bx,0,none⟩)] w (BoolPost (!b) w):=by
 have c0:=hbx.cell 0
 have hlt:=hbx.lt
 simp at c0
 have hP':=hP
 obtain ⟨s0,s1,i2,i3,rfl⟩:=form_pair hP
 have hbw:Below w.heap.size w (w.alloc (.cells #[.string s0,.string s1,.int .i64 i2,.int .i64 i3] 71)):=(Below.refl _ _).alloc (Nat.le_refl _) _
 have Hc:=Lh (H _ hbw (old_pair hbw hP'))
 have Hbw:=Lh hbw
 clear H hbw hP hP' hbx
 go_enter Tryz.func177,Tryz.ntmps177
 go_wp2_with fail
 refine Hc.out.mono ?_
 rintro e w1 ⟨rfl,hb1⟩
 have Hb1:=Lh (Hbw.out.trans (hb1.mono Hbw.out.size))
 clear hb1
 go_wp2_with fail
 go_ret
 exact ⟨ret_bool rfl,Hb1.out⟩
set_option maxRecDepth 20000 in
set_option maxHeartbeats 2000000 in
theorem all_pair (A:Option Addr) (c:Nat) (l:List Sx.Pair) (b:Sx.Pair→Bool) (w:World) (hl:Row w (Old w) A 4 (PairAt) l)
  (H:∀ x∈l,∀ cs W,Below w.heap.size w W→PairAt x cs→Calls Tryz.prog 115 #[.agg cs.toArray] W (BoolPost (b x) W)) :
  Calls Tryz.prog 123 #[.slice A l.length c,.func (.func 115) #[] #[]] w (BoolPost (l.all b) w):=by
 have hbw:Below w.heap.size w (w.alloc (.cells #[.func (.func 115) #[] #[]] 172)):=(Below.refl _ _).alloc (Nat.le_refl _) _
 have hbx:Blk (w.alloc (.cells #[.func (.func 115) #[] #[]] 172)) w.heap.size 172 #[.func (.func 115) #[] #[]]:=Blk.new _ _ _
 have Hc:=Lh (has_pair A c l w.heap.size b _ (hl.keep (P':=PairAt) (old_keep hbw) fun _ _ _ h=>old_pair hbw h) (fun x hx cs W hW hP=>clo_pair x cs w.heap.size (b x) W (hbx.below hW hbx.lt) hP (fun W' hW' hP'=>H x hx cs W' (hbw.trans ((hW.mono hbw.size).trans (hW'.mono (Nat.le_trans hbw.size hW.size)))) hP')))
 obtain ⟨m,hm⟩:∃ m,m=l.length:=⟨_,rfl⟩
 obtain ⟨R,hR⟩:∃ R,R=l.all b:=⟨_,rfl⟩
 rw[←hR,←hm] at Hc
 rw[←hR,←hm]
 have Hbw:=Lh hbw
 clear H hbw hbx hl hm hR
 go_enter Tryz.func123,Tryz.ntmps123
 go_wp2_with fail
 refine Hc.out.mono ?_
 rintro e w1 ⟨rfl,hb1⟩
 have Hb1:=Lh (Hbw.out.trans (hb1.mono Hbw.out.size))
 clear hb1
 go_wp2_with fail
 go_ret
 exact ⟨ret_bool (by simp),Hb1.out⟩
theorem form_prog {w:World} {S:Nat→Prop} {x:Sx.Prog} {cs:List Value} (h:ProgAt w S x cs):∃ (s0:ByteArray) (i1:Int) (i2:Int) (i3:Int) (i4:Int) (i5:Int) (A6:Option Addr) (n6 c6:Nat),cs = [.string s0,.int .i64 i1,.int .i64 i2,.int .i64 i3,.int .i64 i4,.int .i64 i5,.slice A6 n6 c6]:=by
 obtain ⟨A,c,rfl,_⟩:=h
 exact ⟨_,_,_,_,_,_,_,_,_,rfl⟩
theorem old_prog {w w':World} {x:Sx.Prog} {cs:List Value} (hb:Below w.heap.size w w') (h:ProgAt w (Old w) x cs):ProgAt w' (Old w') x cs:=ProgAt.keep (old_keep hb) h
set_option maxRecDepth 20000 in
set_option maxHeartbeats 4000000 in
theorem idx_prog (A:Option Addr) (c:Nat) (l:List Sx.Prog) (bx:Nat) (b:Sx.Prog→Bool) (w:World) (hl:Row w (Old w) A 7 (ProgAt w (Old w)) l)
  (HC:∀ x∈l,∀ cs W,Below w.heap.size w W→ProgAt W (Old W) x cs→Calls Tryz.prog 179 #[.agg cs.toArray,.pointer (some ⟨bx,0,none⟩)] W (BoolPost (!b x) W)) :
  Calls Tryz.prog 206 #[.slice A l.length c,.func (.func 179) #[] #[.pointer (some ⟨bx,0,none⟩)]] w (IdxPost (!l.all b) w):=by
 obtain ⟨m,hm⟩:∃ m,m=l.length:=⟨_,rfl⟩
 obtain ⟨R,hR⟩:∃ R,R = !l.all b:=⟨_,rfl⟩
 have z0:=hl.len
 rw[←hm] at z0 ⊢
 rw[←hR]
 have Hl:=Lh hl;have Hm:=Lh hm;have HR:=Lh hR;have HC':=Lh HC
 clear hl hm hR HC
 go_enter Tryz.func206,Tryz.ntmps206
 go_wp2_with fail
 go_loopg [8] m (fun gk v8 wr=>∃ i:Nat,v8 = .int .i64 i∧i+gk=m∧Hid (Below w.heap.size w wr)∧Hid (∀ j x,j < i→l[j]?=some x→b x=true))
 case atStart=>exact ⟨0,rfl,by omega,Lh (Below.refl _ _),Lh (fun j x hj=>absurd hj (Nat.not_lt_zero j))⟩
 case round=>
  obtain ⟨i,rfl,hi,Hb,Hag⟩:=hrel
  have hws:=Hb.out.size
  by_cases hlt:i < m
  ·obtain ⟨x,hx⟩:∃ x,l[i]?=some x:=⟨_,List.getElem?_eq_getElem (by have:=Hm.out;omega)⟩
   have Hx:=Lh hx
   obtain ⟨bk,ok,cs,rfl,hS,hP,hck⟩:=Hl.out.at_ i x hx
   have hcall:=HC'.out x (List.mem_of_getElem? hx) cs
   have hP':=old_prog Hb.out hP
   obtain ⟨s0,i1,i2,i3,i4,i5,A6,n6,c6,rfl⟩:=form_prog hP
   have k0:=(Hb.out.cell (p:=⟨bk,_,none⟩) hS).trans (hck 0 _ rfl)
   have k1:=(Hb.out.cell (p:=⟨bk,_,none⟩) hS).trans (hck 1 _ rfl)
   have k2:=(Hb.out.cell (p:=⟨bk,_,none⟩) hS).trans (hck 2 _ rfl)
   have k3:=(Hb.out.cell (p:=⟨bk,_,none⟩) hS).trans (hck 3 _ rfl)
   have k4:=(Hb.out.cell (p:=⟨bk,_,none⟩) hS).trans (hck 4 _ rfl)
   have k5:=(Hb.out.cell (p:=⟨bk,_,none⟩) hS).trans (hck 5 _ rfl)
   have k6:=(Hb.out.cell (p:=⟨bk,_,none⟩) hS).trans (hck 6 _ rfl)
   simp only[Nat.add_zero] at k0 k1 k2 k3 k4 k5 k6
   have Hcall:=Lh (hcall wr Hb.out hP')
   clear hcall hP hP' hck hx
   cases hq:b x with
   | false=>
    rw[hq] at Hcall
    have HR2:Hid (R=true):=Lh (by rw [HR.out,all_no Hx.out hq];rfl)
    clear hq
    go_wp2_with fail
    refine Hcall.out.mono ?_
    rintro e w5 ⟨rfl,hb5⟩
    have Hb5:=Lh hb5
    clear hb5
    go_wp2_with fail
    go_ret
    exact ⟨i,ret_int rfl,by rw [HR2.out];simp,Hb.out.trans (Hb5.out.mono hws)⟩
   | true=>
    rw[hq] at Hcall
    have Hq:=Lh hq
    clear hq
    go_wp2_with fail
    refine Hcall.out.mono ?_
    rintro e w5 ⟨rfl,hb5⟩
    have Hb5:=Lh hb5
    clear hb5
    go_wp2_with fail
    go_roundg (gk - 1)
    all_goals first
     | omega
     | exact ⟨i+1,by go_num,by omega,Lh (Hb.out.trans (Hb5.out.mono hws)),Lh (fun j y hj h1=>by
       rcases Nat.lt_or_ge j i with h3 | h3
       ·exact Hag.out j y h3 h1
       ·obtain rfl:j=i:=by omega
        rw[Hx.out] at h1
        injection h1 with h1
        rw[←h1];exact Hq.out)⟩
  ·obtain rfl:i=m:=by omega
   have HR2:Hid (R=false):=Lh (by rw [HR.out,all_yes fun j x hj h=>Hag.out j x (by have:=Hm.out;omega) h];rfl)
   go_wp2_with fail
   go_ret
   exact ⟨-1,ret_int rfl,by rw [HR2.out];rfl,Hb.out⟩
theorem has_prog (A:Option Addr) (c:Nat) (l:List Sx.Prog) (bx:Nat) (b:Sx.Prog→Bool) (w:World) (hl:Row w (Old w) A 7 (ProgAt w (Old w)) l)
  (HC:∀ x∈l,∀ cs W,Below w.heap.size w W→ProgAt W (Old W) x cs→Calls Tryz.prog 179 #[.agg cs.toArray,.pointer (some ⟨bx,0,none⟩)] W (BoolPost (!b x) W)) :
  Calls Tryz.prog 178 #[.slice A l.length c,.func (.func 179) #[] #[.pointer (some ⟨bx,0,none⟩)]] w (BoolPost (!l.all b) w):=by
 have Hc:=Lh (idx_prog A c l bx b w hl HC)
 obtain ⟨R,hR⟩:∃ R,R = !l.all b:=⟨_,rfl⟩
 obtain ⟨m,hm⟩:∃ m,m=l.length:=⟨_,rfl⟩
 rw[←hR,←hm] at Hc ⊢
 clear hl HC hR hm
 go_enter Tryz.func178,Tryz.ntmps178
 go_wp2_with fail
 refine Hc.out.mono ?_
 rintro e w1 ⟨z,rfl,hz,hb1⟩
 have Hz:=Lh hz;have Hb1:=Lh hb1
 clear hz hb1
 go_wp2_with fail
 go_ret
 exact ⟨ret_bool Hz.out,Hb1.out⟩
set_option maxRecDepth 20000 in
set_option maxHeartbeats 2000000 in
theorem clo_prog (x:Sx.Prog) (cs:List Value) (bx:Nat) (b:Bool) (w:World) (hbx:Blk w bx 180 #[.func (.func 125) #[] #[]]) (hP:ProgAt w (Old w) x cs)
  (H:∀ W,Below w.heap.size w W→ProgAt W (Old W) x cs→Calls Tryz.prog 125 #[.agg cs.toArray] W (BoolPost b W)) :
  Calls Tryz.prog 179 #[.agg cs.toArray,.pointer (some ⟨bx,0,none⟩)] w (BoolPost (!b) w):=by
 have c0:=hbx.cell 0
 have hlt:=hbx.lt
 simp at c0
 have hP':=hP
 obtain ⟨s0,i1,i2,i3,i4,i5,A6,n6,c6,rfl⟩:=form_prog hP
 have hbw:Below w.heap.size w (w.alloc (.cells #[.string s0,.int .i64 i1,.int .i64 i2,.int .i64 i3,.int .i64 i4,.int .i64 i5,.slice A6 n6 c6] 78)):=(Below.refl _ _).alloc (Nat.le_refl _) _
 have Hc:=Lh (H _ hbw (old_prog hbw hP'))
 have Hbw:=Lh hbw
 clear H hbw hP hP' hbx
 go_enter Tryz.func179,Tryz.ntmps179
 go_wp2_with fail
 refine Hc.out.mono ?_
 rintro e w1 ⟨rfl,hb1⟩
 have Hb1:=Lh (Hbw.out.trans (hb1.mono Hbw.out.size))
 clear hb1
 go_wp2_with fail
 go_ret
 exact ⟨ret_bool rfl,Hb1.out⟩
set_option maxRecDepth 20000 in
set_option maxHeartbeats 2000000 in
theorem all_prog (A:Option Addr) (c:Nat) (l:List Sx.Prog) (b:Sx.Prog→Bool) (w:World) (hl:Row w (Old w) A 7 (ProgAt w (Old w)) l)
  (H:∀ x∈l,∀ cs W,Below w.heap.size w W→ProgAt W (Old W) x cs→Calls Tryz.prog 125 #[.agg cs.toArray] W (BoolPost (b x) W)) :
  Calls Tryz.prog 124 #[.slice A l.length c,.func (.func 125) #[] #[]] w (BoolPost (l.all b) w):=by
 have hbw:Below w.heap.size w (w.alloc (.cells #[.func (.func 125) #[] #[]] 180)):=(Below.refl _ _).alloc (Nat.le_refl _) _
 have hbx:Blk (w.alloc (.cells #[.func (.func 125) #[] #[]] 180)) w.heap.size 180 #[.func (.func 125) #[] #[]]:=Blk.new _ _ _
 have Hc:=Lh (has_prog A c l w.heap.size b _ (hl.keep (P':=ProgAt (w.alloc (.cells #[.func (.func 125) #[] #[]] 180)) (Old (w.alloc (.cells #[.func (.func 125) #[] #[]] 180)))) (old_keep hbw) fun _ _ _ h=>old_prog hbw h) (fun x hx cs W hW hP=>clo_prog x cs w.heap.size (b x) W (hbx.below hW hbx.lt) hP (fun W' hW' hP'=>H x hx cs W' (hbw.trans ((hW.mono hbw.size).trans (hW'.mono (Nat.le_trans hbw.size hW.size)))) hP')))
 obtain ⟨m,hm⟩:∃ m,m=l.length:=⟨_,rfl⟩
 obtain ⟨R,hR⟩:∃ R,R=l.all b:=⟨_,rfl⟩
 rw[←hR,←hm] at Hc
 rw[←hR,←hm]
 have Hbw:=Lh hbw
 clear H hbw hbx hl hm hR
 go_enter Tryz.func124,Tryz.ntmps124
 go_wp2_with fail
 refine Hc.out.mono ?_
 rintro e w1 ⟨rfl,hb1⟩
 have Hb1:=Lh (Hbw.out.trans (hb1.mono Hbw.out.size))
 clear hb1
 go_wp2_with fail
 go_ret
 exact ⟨ret_bool (by simp),Hb1.out⟩
theorem form_cls {x:Sx.Cls} {cs:List Value} (h:ClsAt x cs):∃ (s0:ByteArray) (i1:Int) (i2:Int) (i3:Int),cs = [.string s0,.int .i64 i1,.int .i64 i2,.int .i64 i3]:=by
 obtain ⟨rfl,_⟩:=h
 exact ⟨_,_,_,_,rfl⟩
theorem old_cls {w w':World} {x:Sx.Cls} {cs:List Value} (_hb:Below w.heap.size w w') (h:ClsAt x cs):ClsAt x cs:=h
set_option maxRecDepth 20000 in
set_option maxHeartbeats 4000000 in
theorem idx_cls (A:Option Addr) (c:Nat) (l:List Sx.Cls) (bx:Nat) (b:Sx.Cls→Bool) (w:World) (hl:Row w (Old w) A 4 (ClsAt) l)
  (HC:∀ x∈l,∀ cs W,Below w.heap.size w W→ClsAt x cs→Calls Tryz.prog 183 #[.agg cs.toArray,.pointer (some ⟨bx,0,none⟩)] W (BoolPost (!b x) W)) :
  Calls Tryz.prog 209 #[.slice A l.length c,.func (.func 183) #[] #[.pointer (some ⟨bx,0,none⟩)]] w (IdxPost (!l.all b) w):=by
 obtain ⟨m,hm⟩:∃ m,m=l.length:=⟨_,rfl⟩
 obtain ⟨R,hR⟩:∃ R,R = !l.all b:=⟨_,rfl⟩
 have z0:=hl.len
 rw[←hm] at z0 ⊢
 rw[←hR]
 have Hl:=Lh hl;have Hm:=Lh hm;have HR:=Lh hR;have HC':=Lh HC
 clear hl hm hR HC
 go_enter Tryz.func209,Tryz.ntmps209
 go_wp2_with fail
 go_loopg [8] m (fun gk v8 wr=>∃ i:Nat,v8 = .int .i64 i∧i+gk=m∧Hid (Below w.heap.size w wr)∧Hid (∀ j x,j < i→l[j]?=some x→b x=true))
 case atStart=>exact ⟨0,rfl,by omega,Lh (Below.refl _ _),Lh (fun j x hj=>absurd hj (Nat.not_lt_zero j))⟩
 case round=>
  obtain ⟨i,rfl,hi,Hb,Hag⟩:=hrel
  have hws:=Hb.out.size
  by_cases hlt:i < m
  ·obtain ⟨x,hx⟩:∃ x,l[i]?=some x:=⟨_,List.getElem?_eq_getElem (by have:=Hm.out;omega)⟩
   have Hx:=Lh hx
   obtain ⟨bk,ok,cs,rfl,hS,hP,hck⟩:=Hl.out.at_ i x hx
   have hcall:=HC'.out x (List.mem_of_getElem? hx) cs
   have hP':=old_cls Hb.out hP
   obtain ⟨s0,i1,i2,i3,rfl⟩:=form_cls hP
   have k0:=(Hb.out.cell (p:=⟨bk,_,none⟩) hS).trans (hck 0 _ rfl)
   have k1:=(Hb.out.cell (p:=⟨bk,_,none⟩) hS).trans (hck 1 _ rfl)
   have k2:=(Hb.out.cell (p:=⟨bk,_,none⟩) hS).trans (hck 2 _ rfl)
   have k3:=(Hb.out.cell (p:=⟨bk,_,none⟩) hS).trans (hck 3 _ rfl)
   simp only[Nat.add_zero] at k0 k1 k2 k3
   have Hcall:=Lh (hcall wr Hb.out hP')
   clear hcall hP hP' hck hx
   cases hq:b x with
   | false=>
    rw[hq] at Hcall
    have HR2:Hid (R=true):=Lh (by rw [HR.out,all_no Hx.out hq];rfl)
    clear hq
    go_wp2_with fail
    refine Hcall.out.mono ?_
    rintro e w5 ⟨rfl,hb5⟩
    have Hb5:=Lh hb5
    clear hb5
    go_wp2_with fail
    go_ret
    exact ⟨i,ret_int rfl,by rw [HR2.out];simp,Hb.out.trans (Hb5.out.mono hws)⟩
   | true=>
    rw[hq] at Hcall
    have Hq:=Lh hq
    clear hq
    go_wp2_with fail
    refine Hcall.out.mono ?_
    rintro e w5 ⟨rfl,hb5⟩
    have Hb5:=Lh hb5
    clear hb5
    go_wp2_with fail
    go_roundg (gk - 1)
    all_goals first
     | omega
     | exact ⟨i+1,by go_num,by omega,Lh (Hb.out.trans (Hb5.out.mono hws)),Lh (fun j y hj h1=>by
       rcases Nat.lt_or_ge j i with h3 | h3
       ·exact Hag.out j y h3 h1
       ·obtain rfl:j=i:=by omega
        rw[Hx.out] at h1
        injection h1 with h1
        rw[←h1];exact Hq.out)⟩
  ·obtain rfl:i=m:=by omega
   have HR2:Hid (R=false):=Lh (by rw [HR.out,all_yes fun j x hj h=>Hag.out j x (by have:=Hm.out;omega) h];rfl)
   go_wp2_with fail
   go_ret
   exact ⟨-1,ret_int rfl,by rw [HR2.out];rfl,Hb.out⟩
theorem has_cls (A:Option Addr) (c:Nat) (l:List Sx.Cls) (bx:Nat) (b:Sx.Cls→Bool) (w:World) (hl:Row w (Old w) A 4 (ClsAt) l)
  (HC:∀ x∈l,∀ cs W,Below w.heap.size w W→ClsAt x cs→Calls Tryz.prog 183 #[.agg cs.toArray,.pointer (some ⟨bx,0,none⟩)] W (BoolPost (!b x) W)) :
  Calls Tryz.prog 182 #[.slice A l.length c,.func (.func 183) #[] #[.pointer (some ⟨bx,0,none⟩)]] w (BoolPost (!l.all b) w):=by
 have Hc:=Lh (idx_cls A c l bx b w hl HC)
 obtain ⟨R,hR⟩:∃ R,R = !l.all b:=⟨_,rfl⟩
 obtain ⟨m,hm⟩:∃ m,m=l.length:=⟨_,rfl⟩
 rw[←hR,←hm] at Hc ⊢
 clear hl HC hR hm
 go_enter Tryz.func182,Tryz.ntmps182
 go_wp2_with fail
 refine Hc.out.mono ?_
 rintro e w1 ⟨z,rfl,hz,hb1⟩
 have Hz:=Lh hz;have Hb1:=Lh hb1
 clear hz hb1
 go_wp2_with fail
 go_ret
 exact ⟨ret_bool Hz.out,Hb1.out⟩
set_option maxRecDepth 20000 in
set_option maxHeartbeats 2000000 in
theorem clo_cls (x:Sx.Cls) (cs:List Value) (bx:Nat) (b:Bool) (w:World) (hbx:Blk w bx 182 #[.func (.func 127) #[] #[]]) (hP:ClsAt x cs)
  (H:∀ W,Below w.heap.size w W→ClsAt x cs→Calls Tryz.prog 127 #[.agg cs.toArray] W (BoolPost b W)) :
  Calls Tryz.prog 183 #[.agg cs.toArray,.pointer (some ⟨bx,0,none⟩)] w (BoolPost (!b) w):=by
 have c0:=hbx.cell 0
 have hlt:=hbx.lt
 simp at c0
 have hP':=hP
 obtain ⟨s0,i1,i2,i3,rfl⟩:=form_cls hP
 have hbw:Below w.heap.size w (w.alloc (.cells #[.string s0,.int .i64 i1,.int .i64 i2,.int .i64 i3] 82)):=(Below.refl _ _).alloc (Nat.le_refl _) _
 have Hc:=Lh (H _ hbw (old_cls hbw hP'))
 have Hbw:=Lh hbw
 clear H hbw hP hP' hbx
 go_enter Tryz.func183,Tryz.ntmps183
 go_wp2_with fail
 refine Hc.out.mono ?_
 rintro e w1 ⟨rfl,hb1⟩
 have Hb1:=Lh (Hbw.out.trans (hb1.mono Hbw.out.size))
 clear hb1
 go_wp2_with fail
 go_ret
 exact ⟨ret_bool rfl,Hb1.out⟩
set_option maxRecDepth 20000 in
set_option maxHeartbeats 2000000 in
theorem all_cls (A:Option Addr) (c:Nat) (l:List Sx.Cls) (b:Sx.Cls→Bool) (w:World) (hl:Row w (Old w) A 4 (ClsAt) l)
  (H:∀ x∈l,∀ cs W,Below w.heap.size w W→ClsAt x cs→Calls Tryz.prog 127 #[.agg cs.toArray] W (BoolPost (b x) W)) :
  Calls Tryz.prog 126 #[.slice A l.length c,.func (.func 127) #[] #[]] w (BoolPost (l.all b) w):=by
 have hbw:Below w.heap.size w (w.alloc (.cells #[.func (.func 127) #[] #[]] 182)):=(Below.refl _ _).alloc (Nat.le_refl _) _
 have hbx:Blk (w.alloc (.cells #[.func (.func 127) #[] #[]] 182)) w.heap.size 182 #[.func (.func 127) #[] #[]]:=Blk.new _ _ _
 have Hc:=Lh (has_cls A c l w.heap.size b _ (hl.keep (P':=ClsAt) (old_keep hbw) fun _ _ _ h=>old_cls hbw h) (fun x hx cs W hW hP=>clo_cls x cs w.heap.size (b x) W (hbx.below hW hbx.lt) hP (fun W' hW' hP'=>H x hx cs W' (hbw.trans ((hW.mono hbw.size).trans (hW'.mono (Nat.le_trans hbw.size hW.size)))) hP')))
 obtain ⟨m,hm⟩:∃ m,m=l.length:=⟨_,rfl⟩
 obtain ⟨R,hR⟩:∃ R,R=l.all b:=⟨_,rfl⟩
 rw[←hR,←hm] at Hc
 rw[←hR,←hm]
 have Hbw:=Lh hbw
 clear H hbw hbx hl hm hR
 go_enter Tryz.func126,Tryz.ntmps126
 go_wp2_with fail
 refine Hc.out.mono ?_
 rintro e w1 ⟨rfl,hb1⟩
 have Hb1:=Lh (Hbw.out.trans (hb1.mono Hbw.out.size))
 clear hb1
 go_wp2_with fail
 go_ret
 exact ⟨ret_bool (by simp),Hb1.out⟩
theorem form_fee {x:Sx.Fee} {cs:List Value} (h:FeeAt x cs):∃ (s0:ByteArray) (i1:Int),cs = [.string s0,.int .i64 i1]:=by
 obtain ⟨rfl,_⟩:=h
 exact ⟨_,_,rfl⟩
theorem old_fee {w w':World} {x:Sx.Fee} {cs:List Value} (_hb:Below w.heap.size w w') (h:FeeAt x cs):FeeAt x cs:=h
set_option maxRecDepth 20000 in
set_option maxHeartbeats 4000000 in
theorem idx_fee (A:Option Addr) (c:Nat) (l:List Sx.Fee) (bx:Nat) (b:Sx.Fee→Bool) (w:World) (hl:Row w (Old w) A 2 (FeeAt) l)
  (HC:∀ x∈l,∀ cs W,Below w.heap.size w W→FeeAt x cs→Calls Tryz.prog 185 #[.agg cs.toArray,.pointer (some ⟨bx,0,none⟩)] W (BoolPost (!b x) W)) :
  Calls Tryz.prog 210 #[.slice A l.length c,.func (.func 185) #[] #[.pointer (some ⟨bx,0,none⟩)]] w (IdxPost (!l.all b) w):=by
 obtain ⟨m,hm⟩:∃ m,m=l.length:=⟨_,rfl⟩
 obtain ⟨R,hR⟩:∃ R,R = !l.all b:=⟨_,rfl⟩
 have z0:=hl.len
 rw[←hm] at z0 ⊢
 rw[←hR]
 have Hl:=Lh hl;have Hm:=Lh hm;have HR:=Lh hR;have HC':=Lh HC
 clear hl hm hR HC
 go_enter Tryz.func210,Tryz.ntmps210
 go_wp2_with fail
 go_loopg [8] m (fun gk v8 wr=>∃ i:Nat,v8 = .int .i64 i∧i+gk=m∧Hid (Below w.heap.size w wr)∧Hid (∀ j x,j < i→l[j]?=some x→b x=true))
 case atStart=>exact ⟨0,rfl,by omega,Lh (Below.refl _ _),Lh (fun j x hj=>absurd hj (Nat.not_lt_zero j))⟩
 case round=>
  obtain ⟨i,rfl,hi,Hb,Hag⟩:=hrel
  have hws:=Hb.out.size
  by_cases hlt:i < m
  ·obtain ⟨x,hx⟩:∃ x,l[i]?=some x:=⟨_,List.getElem?_eq_getElem (by have:=Hm.out;omega)⟩
   have Hx:=Lh hx
   obtain ⟨bk,ok,cs,rfl,hS,hP,hck⟩:=Hl.out.at_ i x hx
   have hcall:=HC'.out x (List.mem_of_getElem? hx) cs
   have hP':=old_fee Hb.out hP
   obtain ⟨s0,i1,rfl⟩:=form_fee hP
   have k0:=(Hb.out.cell (p:=⟨bk,_,none⟩) hS).trans (hck 0 _ rfl)
   have k1:=(Hb.out.cell (p:=⟨bk,_,none⟩) hS).trans (hck 1 _ rfl)
   simp only[Nat.add_zero] at k0 k1
   have Hcall:=Lh (hcall wr Hb.out hP')
   clear hcall hP hP' hck hx
   cases hq:b x with
   | false=>
    rw[hq] at Hcall
    have HR2:Hid (R=true):=Lh (by rw [HR.out,all_no Hx.out hq];rfl)
    clear hq
    go_wp2_with fail
    refine Hcall.out.mono ?_
    rintro e w5 ⟨rfl,hb5⟩
    have Hb5:=Lh hb5
    clear hb5
    go_wp2_with fail
    go_ret
    exact ⟨i,ret_int rfl,by rw [HR2.out];simp,Hb.out.trans (Hb5.out.mono hws)⟩
   | true=>
    rw[hq] at Hcall
    have Hq:=Lh hq
    clear hq
    go_wp2_with fail
    refine Hcall.out.mono ?_
    rintro e w5 ⟨rfl,hb5⟩
    have Hb5:=Lh hb5
    clear hb5
    go_wp2_with fail
    go_roundg (gk - 1)
    all_goals first
     | omega
     | exact ⟨i+1,by go_num,by omega,Lh (Hb.out.trans (Hb5.out.mono hws)),Lh (fun j y hj h1=>by
       rcases Nat.lt_or_ge j i with h3 | h3
       ·exact Hag.out j y h3 h1
       ·obtain rfl:j=i:=by omega
        rw[Hx.out] at h1
        injection h1 with h1
        rw[←h1];exact Hq.out)⟩
  ·obtain rfl:i=m:=by omega
   have HR2:Hid (R=false):=Lh (by rw [HR.out,all_yes fun j x hj h=>Hag.out j x (by have:=Hm.out;omega) h];rfl)
   go_wp2_with fail
   go_ret
   exact ⟨-1,ret_int rfl,by rw [HR2.out];rfl,Hb.out⟩
theorem has_fee (A:Option Addr) (c:Nat) (l:List Sx.Fee) (bx:Nat) (b:Sx.Fee→Bool) (w:World) (hl:Row w (Old w) A 2 (FeeAt) l)
  (HC:∀ x∈l,∀ cs W,Below w.heap.size w W→FeeAt x cs→Calls Tryz.prog 185 #[.agg cs.toArray,.pointer (some ⟨bx,0,none⟩)] W (BoolPost (!b x) W)) :
  Calls Tryz.prog 184 #[.slice A l.length c,.func (.func 185) #[] #[.pointer (some ⟨bx,0,none⟩)]] w (BoolPost (!l.all b) w):=by
 have Hc:=Lh (idx_fee A c l bx b w hl HC)
 obtain ⟨R,hR⟩:∃ R,R = !l.all b:=⟨_,rfl⟩
 obtain ⟨m,hm⟩:∃ m,m=l.length:=⟨_,rfl⟩
 rw[←hR,←hm] at Hc ⊢
 clear hl HC hR hm
 go_enter Tryz.func184,Tryz.ntmps184
 go_wp2_with fail
 refine Hc.out.mono ?_
 rintro e w1 ⟨z,rfl,hz,hb1⟩
 have Hz:=Lh hz;have Hb1:=Lh hb1
 clear hz hb1
 go_wp2_with fail
 go_ret
 exact ⟨ret_bool Hz.out,Hb1.out⟩
set_option maxRecDepth 20000 in
set_option maxHeartbeats 2000000 in
theorem clo_fee (x:Sx.Fee) (cs:List Value) (bx:Nat) (b:Bool) (w:World) (hbx:Blk w bx 174 #[.func (.func 117) #[] #[]]) (hP:FeeAt x cs)
  (H:∀ W,Below w.heap.size w W→FeeAt x cs→Calls Tryz.prog 117 #[.agg cs.toArray] W (BoolPost b W)) :
  Calls Tryz.prog 185 #[.agg cs.toArray,.pointer (some ⟨bx,0,none⟩)] w (BoolPost (!b) w):=by
 have c0:=hbx.cell 0
 have hlt:=hbx.lt
 simp at c0
 have hP':=hP
 obtain ⟨s0,i1,rfl⟩:=form_fee hP
 have hbw:Below w.heap.size w (w.alloc (.cells #[.string s0,.int .i64 i1] 86)):=(Below.refl _ _).alloc (Nat.le_refl _) _
 have Hc:=Lh (H _ hbw (old_fee hbw hP'))
 have Hbw:=Lh hbw
 clear H hbw hP hP' hbx
 go_enter Tryz.func185,Tryz.ntmps185
 go_wp2_with fail
 refine Hc.out.mono ?_
 rintro e w1 ⟨rfl,hb1⟩
 have Hb1:=Lh (Hbw.out.trans (hb1.mono Hbw.out.size))
 clear hb1
 go_wp2_with fail
 go_ret
 exact ⟨ret_bool rfl,Hb1.out⟩
set_option maxRecDepth 20000 in
set_option maxHeartbeats 2000000 in
theorem all_fee (A:Option Addr) (c:Nat) (l:List Sx.Fee) (b:Sx.Fee→Bool) (w:World) (hl:Row w (Old w) A 2 (FeeAt) l)
  (H:∀ x∈l,∀ cs W,Below w.heap.size w W→FeeAt x cs→Calls Tryz.prog 117 #[.agg cs.toArray] W (BoolPost (b x) W)) :
  Calls Tryz.prog 128 #[.slice A l.length c,.func (.func 117) #[] #[]] w (BoolPost (l.all b) w):=by
 have hbw:Below w.heap.size w (w.alloc (.cells #[.func (.func 117) #[] #[]] 174)):=(Below.refl _ _).alloc (Nat.le_refl _) _
 have hbx:Blk (w.alloc (.cells #[.func (.func 117) #[] #[]] 174)) w.heap.size 174 #[.func (.func 117) #[] #[]]:=Blk.new _ _ _
 have Hc:=Lh (has_fee A c l w.heap.size b _ (hl.keep (P':=FeeAt) (old_keep hbw) fun _ _ _ h=>old_fee hbw h) (fun x hx cs W hW hP=>clo_fee x cs w.heap.size (b x) W (hbx.below hW hbx.lt) hP (fun W' hW' hP'=>H x hx cs W' (hbw.trans ((hW.mono hbw.size).trans (hW'.mono (Nat.le_trans hbw.size hW.size)))) hP')))
 obtain ⟨m,hm⟩:∃ m,m=l.length:=⟨_,rfl⟩
 obtain ⟨R,hR⟩:∃ R,R=l.all b:=⟨_,rfl⟩
 rw[←hR,←hm] at Hc
 rw[←hR,←hm]
 have Hbw:=Lh hbw
 clear H hbw hbx hl hm hR
 go_enter Tryz.func128,Tryz.ntmps128
 go_wp2_with fail
 refine Hc.out.mono ?_
 rintro e w1 ⟨rfl,hb1⟩
 have Hb1:=Lh (Hbw.out.trans (hb1.mono Hbw.out.size))
 clear hb1
 go_wp2_with fail
 go_ret
 exact ⟨ret_bool (by simp),Hb1.out⟩
theorem form_clause {x:Sx.Clause} {cs:List Value} (h:ClauseAt x cs):∃ (i0:Int) (i1:Int) (i2:Int) (i3:Int),cs = [.int .i64 i0,.int .i64 i1,.int .i64 i2,.int .i64 i3]:=by
 unfold ClauseAt at h
 subst h
 exact ⟨_,_,_,_,rfl⟩
theorem old_clause {w w':World} {x:Sx.Clause} {cs:List Value} (_hb:Below w.heap.size w w') (h:ClauseAt x cs):ClauseAt x cs:=h
set_option maxRecDepth 20000 in
set_option maxHeartbeats 4000000 in
theorem idx_clause (A:Option Addr) (c:Nat) (l:List Sx.Clause) (bx:Nat) (b:Sx.Clause→Bool) (w:World) (hl:Row w (Old w) A 4 (ClauseAt) l)
  (HC:∀ x∈l,∀ cs W,Below w.heap.size w W→ClauseAt x cs→Calls Tryz.prog 187 #[.agg cs.toArray,.pointer (some ⟨bx,0,none⟩)] W (BoolPost (!b x) W)) :
  Calls Tryz.prog 211 #[.slice A l.length c,.func (.func 187) #[] #[.pointer (some ⟨bx,0,none⟩)]] w (IdxPost (!l.all b) w):=by
 obtain ⟨m,hm⟩:∃ m,m=l.length:=⟨_,rfl⟩
 obtain ⟨R,hR⟩:∃ R,R = !l.all b:=⟨_,rfl⟩
 have z0:=hl.len
 rw[←hm] at z0 ⊢
 rw[←hR]
 have Hl:=Lh hl;have Hm:=Lh hm;have HR:=Lh hR;have HC':=Lh HC
 clear hl hm hR HC
 go_enter Tryz.func211,Tryz.ntmps211
 go_wp2_with fail
 go_loopg [8] m (fun gk v8 wr=>∃ i:Nat,v8 = .int .i64 i∧i+gk=m∧Hid (Below w.heap.size w wr)∧Hid (∀ j x,j < i→l[j]?=some x→b x=true))
 case atStart=>exact ⟨0,rfl,by omega,Lh (Below.refl _ _),Lh (fun j x hj=>absurd hj (Nat.not_lt_zero j))⟩
 case round=>
  obtain ⟨i,rfl,hi,Hb,Hag⟩:=hrel
  have hws:=Hb.out.size
  by_cases hlt:i < m
  ·obtain ⟨x,hx⟩:∃ x,l[i]?=some x:=⟨_,List.getElem?_eq_getElem (by have:=Hm.out;omega)⟩
   have Hx:=Lh hx
   obtain ⟨bk,ok,cs,rfl,hS,hP,hck⟩:=Hl.out.at_ i x hx
   have hcall:=HC'.out x (List.mem_of_getElem? hx) cs
   have hP':=old_clause Hb.out hP
   obtain ⟨i0,i1,i2,i3,rfl⟩:=form_clause hP
   have k0:=(Hb.out.cell (p:=⟨bk,_,none⟩) hS).trans (hck 0 _ rfl)
   have k1:=(Hb.out.cell (p:=⟨bk,_,none⟩) hS).trans (hck 1 _ rfl)
   have k2:=(Hb.out.cell (p:=⟨bk,_,none⟩) hS).trans (hck 2 _ rfl)
   have k3:=(Hb.out.cell (p:=⟨bk,_,none⟩) hS).trans (hck 3 _ rfl)
   simp only[Nat.add_zero] at k0 k1 k2 k3
   have Hcall:=Lh (hcall wr Hb.out hP')
   clear hcall hP hP' hck hx
   cases hq:b x with
   | false=>
    rw[hq] at Hcall
    have HR2:Hid (R=true):=Lh (by rw [HR.out,all_no Hx.out hq];rfl)
    clear hq
    go_wp2_with fail
    refine Hcall.out.mono ?_
    rintro e w5 ⟨rfl,hb5⟩
    have Hb5:=Lh hb5
    clear hb5
    go_wp2_with fail
    go_ret
    exact ⟨i,ret_int rfl,by rw [HR2.out];simp,Hb.out.trans (Hb5.out.mono hws)⟩
   | true=>
    rw[hq] at Hcall
    have Hq:=Lh hq
    clear hq
    go_wp2_with fail
    refine Hcall.out.mono ?_
    rintro e w5 ⟨rfl,hb5⟩
    have Hb5:=Lh hb5
    clear hb5
    go_wp2_with fail
    go_roundg (gk - 1)
    all_goals first
     | omega
     | exact ⟨i+1,by go_num,by omega,Lh (Hb.out.trans (Hb5.out.mono hws)),Lh (fun j y hj h1=>by
       rcases Nat.lt_or_ge j i with h3 | h3
       ·exact Hag.out j y h3 h1
       ·obtain rfl:j=i:=by omega
        rw[Hx.out] at h1
        injection h1 with h1
        rw[←h1];exact Hq.out)⟩
  ·obtain rfl:i=m:=by omega
   have HR2:Hid (R=false):=Lh (by rw [HR.out,all_yes fun j x hj h=>Hag.out j x (by have:=Hm.out;omega) h];rfl)
   go_wp2_with fail
   go_ret
   exact ⟨-1,ret_int rfl,by rw [HR2.out];rfl,Hb.out⟩
theorem has_clause (A:Option Addr) (c:Nat) (l:List Sx.Clause) (bx:Nat) (b:Sx.Clause→Bool) (w:World) (hl:Row w (Old w) A 4 (ClauseAt) l)
  (HC:∀ x∈l,∀ cs W,Below w.heap.size w W→ClauseAt x cs→Calls Tryz.prog 187 #[.agg cs.toArray,.pointer (some ⟨bx,0,none⟩)] W (BoolPost (!b x) W)) :
  Calls Tryz.prog 186 #[.slice A l.length c,.func (.func 187) #[] #[.pointer (some ⟨bx,0,none⟩)]] w (BoolPost (!l.all b) w):=by
 have Hc:=Lh (idx_clause A c l bx b w hl HC)
 obtain ⟨R,hR⟩:∃ R,R = !l.all b:=⟨_,rfl⟩
 obtain ⟨m,hm⟩:∃ m,m=l.length:=⟨_,rfl⟩
 rw[←hR,←hm] at Hc ⊢
 clear hl HC hR hm
 go_enter Tryz.func186,Tryz.ntmps186
 go_wp2_with fail
 refine Hc.out.mono ?_
 rintro e w1 ⟨z,rfl,hz,hb1⟩
 have Hz:=Lh hz;have Hb1:=Lh hb1
 clear hz hb1
 go_wp2_with fail
 go_ret
 exact ⟨ret_bool Hz.out,Hb1.out⟩
set_option maxRecDepth 20000 in
set_option maxHeartbeats 2000000 in
theorem clo_clause (x:Sx.Clause) (cs:List Value) (bx:Nat) (b:Bool) (w:World) (hbx:Blk w bx 175 #[.func (.func 120) #[] #[]]) (hP:ClauseAt x cs)
  (H:∀ W,Below w.heap.size w W→ClauseAt x cs→Calls Tryz.prog 120 #[.agg cs.toArray] W (BoolPost b W)) :
  Calls Tryz.prog 187 #[.agg cs.toArray,.pointer (some ⟨bx,0,none⟩)] w (BoolPost (!b) w):=by
 have c0:=hbx.cell 0
 have hlt:=hbx.lt
 simp at c0
 have hP':=hP
 obtain ⟨i0,i1,i2,i3,rfl⟩:=form_clause hP
 have hbw:Below w.heap.size w (w.alloc (.cells #[.int .i64 i0,.int .i64 i1,.int .i64 i2,.int .i64 i3] 90)):=(Below.refl _ _).alloc (Nat.le_refl _) _
 have Hc:=Lh (H _ hbw (old_clause hbw hP'))
 have Hbw:=Lh hbw
 clear H hbw hP hP' hbx
 go_enter Tryz.func187,Tryz.ntmps187
 go_wp2_with fail
 refine Hc.out.mono ?_
 rintro e w1 ⟨rfl,hb1⟩
 have Hb1:=Lh (Hbw.out.trans (hb1.mono Hbw.out.size))
 clear hb1
 go_wp2_with fail
 go_ret
 exact ⟨ret_bool rfl,Hb1.out⟩
set_option maxRecDepth 20000 in
set_option maxHeartbeats 2000000 in
theorem all_clause (A:Option Addr) (c:Nat) (l:List Sx.Clause) (b:Sx.Clause→Bool) (w:World) (hl:Row w (Old w) A 4 (ClauseAt) l)
  (H:∀ x∈l,∀ cs W,Below w.heap.size w W→ClauseAt x cs→Calls Tryz.prog 120 #[.agg cs.toArray] W (BoolPost (b x) W)) :
  Calls Tryz.prog 129 #[.slice A l.length c,.func (.func 120) #[] #[]] w (BoolPost (l.all b) w):=by
 have hbw:Below w.heap.size w (w.alloc (.cells #[.func (.func 120) #[] #[]] 175)):=(Below.refl _ _).alloc (Nat.le_refl _) _
 have hbx:Blk (w.alloc (.cells #[.func (.func 120) #[] #[]] 175)) w.heap.size 175 #[.func (.func 120) #[] #[]]:=Blk.new _ _ _
 have Hc:=Lh (has_clause A c l w.heap.size b _ (hl.keep (P':=ClauseAt) (old_keep hbw) fun _ _ _ h=>old_clause hbw h) (fun x hx cs W hW hP=>clo_clause x cs w.heap.size (b x) W (hbx.below hW hbx.lt) hP (fun W' hW' hP'=>H x hx cs W' (hbw.trans ((hW.mono hbw.size).trans (hW'.mono (Nat.le_trans hbw.size hW.size)))) hP')))
 obtain ⟨m,hm⟩:∃ m,m=l.length:=⟨_,rfl⟩
 obtain ⟨R,hR⟩:∃ R,R=l.all b:=⟨_,rfl⟩
 rw[←hR,←hm] at Hc
 rw[←hR,←hm]
 have Hbw:=Lh hbw
 clear H hbw hbx hl hm hR
 go_enter Tryz.func129,Tryz.ntmps129
 go_wp2_with fail
 refine Hc.out.mono ?_
 rintro e w1 ⟨rfl,hb1⟩
 have Hb1:=Lh (Hbw.out.trans (hb1.mono Hbw.out.size))
 clear hb1
 go_wp2_with fail
 go_ret
 exact ⟨ret_bool (by simp),Hb1.out⟩
theorem form_req {w:World} {S:Nat→Prop} {x:Sx.Req} {cs:List Value} (h:ReqAt w S x cs):∃ (s0:ByteArray) (i1:Int) (i2:Int) (b3:Bool) (A4:Option Addr) (n4 c4:Nat) (A5:Option Addr) (n5 c5:Nat),cs = [.string s0,.int .i64 i1,.int .i64 i2,.bool b3,.slice A4 n4 c4,.slice A5 n5 c5]:=by
 obtain ⟨A,c,B,d,rfl,_⟩:=h
 exact ⟨_,_,_,_,_,_,_,_,_,_,rfl⟩
theorem old_req {w w':World} {x:Sx.Req} {cs:List Value} (hb:Below w.heap.size w w') (h:ReqAt w (Old w) x cs):ReqAt w' (Old w') x cs:=ReqAt.keep (old_keep hb) h
set_option maxRecDepth 20000 in
set_option maxHeartbeats 4000000 in
theorem idx_req (A:Option Addr) (c:Nat) (l:List Sx.Req) (bx:Nat) (b:Sx.Req→Bool) (w:World) (hl:Row w (Old w) A 6 (ReqAt w (Old w)) l)
  (HC:∀ x∈l,∀ cs W,Below w.heap.size w W→ReqAt W (Old W) x cs→Calls Tryz.prog 208 #[.agg cs.toArray,.pointer (some ⟨bx,0,none⟩)] W (BoolPost (!b x) W)) :
  Calls Tryz.prog 223 #[.slice A l.length c,.func (.func 208) #[] #[.pointer (some ⟨bx,0,none⟩)]] w (IdxPost (!l.all b) w):=by
 obtain ⟨m,hm⟩:∃ m,m=l.length:=⟨_,rfl⟩
 obtain ⟨R,hR⟩:∃ R,R = !l.all b:=⟨_,rfl⟩
 have z0:=hl.len
 rw[←hm] at z0 ⊢
 rw[←hR]
 have Hl:=Lh hl;have Hm:=Lh hm;have HR:=Lh hR;have HC':=Lh HC
 clear hl hm hR HC
 go_enter Tryz.func223,Tryz.ntmps223
 go_wp2_with fail
 go_loopg [8] m (fun gk v8 wr=>∃ i:Nat,v8 = .int .i64 i∧i+gk=m∧Hid (Below w.heap.size w wr)∧Hid (∀ j x,j < i→l[j]?=some x→b x=true))
 case atStart=>exact ⟨0,rfl,by omega,Lh (Below.refl _ _),Lh (fun j x hj=>absurd hj (Nat.not_lt_zero j))⟩
 case round=>
  obtain ⟨i,rfl,hi,Hb,Hag⟩:=hrel
  have hws:=Hb.out.size
  by_cases hlt:i < m
  ·obtain ⟨x,hx⟩:∃ x,l[i]?=some x:=⟨_,List.getElem?_eq_getElem (by have:=Hm.out;omega)⟩
   have Hx:=Lh hx
   obtain ⟨bk,ok,cs,rfl,hS,hP,hck⟩:=Hl.out.at_ i x hx
   have hcall:=HC'.out x (List.mem_of_getElem? hx) cs
   have hP':=old_req Hb.out hP
   obtain ⟨s0,i1,i2,b3,A4,n4,c4,A5,n5,c5,rfl⟩:=form_req hP
   have k0:=(Hb.out.cell (p:=⟨bk,_,none⟩) hS).trans (hck 0 _ rfl)
   have k1:=(Hb.out.cell (p:=⟨bk,_,none⟩) hS).trans (hck 1 _ rfl)
   have k2:=(Hb.out.cell (p:=⟨bk,_,none⟩) hS).trans (hck 2 _ rfl)
   have k3:=(Hb.out.cell (p:=⟨bk,_,none⟩) hS).trans (hck 3 _ rfl)
   have k4:=(Hb.out.cell (p:=⟨bk,_,none⟩) hS).trans (hck 4 _ rfl)
   have k5:=(Hb.out.cell (p:=⟨bk,_,none⟩) hS).trans (hck 5 _ rfl)
   simp only[Nat.add_zero] at k0 k1 k2 k3 k4 k5
   have Hcall:=Lh (hcall wr Hb.out hP')
   clear hcall hP hP' hck hx
   cases hq:b x with
   | false=>
    rw[hq] at Hcall
    have HR2:Hid (R=true):=Lh (by rw [HR.out,all_no Hx.out hq];rfl)
    clear hq
    go_wp2_with fail
    refine Hcall.out.mono ?_
    rintro e w5 ⟨rfl,hb5⟩
    have Hb5:=Lh hb5
    clear hb5
    go_wp2_with fail
    go_ret
    exact ⟨i,ret_int rfl,by rw [HR2.out];simp,Hb.out.trans (Hb5.out.mono hws)⟩
   | true=>
    rw[hq] at Hcall
    have Hq:=Lh hq
    clear hq
    go_wp2_with fail
    refine Hcall.out.mono ?_
    rintro e w5 ⟨rfl,hb5⟩
    have Hb5:=Lh hb5
    clear hb5
    go_wp2_with fail
    go_roundg (gk - 1)
    all_goals first
     | omega
     | exact ⟨i+1,by go_num,by omega,Lh (Hb.out.trans (Hb5.out.mono hws)),Lh (fun j y hj h1=>by
       rcases Nat.lt_or_ge j i with h3 | h3
       ·exact Hag.out j y h3 h1
       ·obtain rfl:j=i:=by omega
        rw[Hx.out] at h1
        injection h1 with h1
        rw[←h1];exact Hq.out)⟩
  ·obtain rfl:i=m:=by omega
   have HR2:Hid (R=false):=Lh (by rw [HR.out,all_yes fun j x hj h=>Hag.out j x (by have:=Hm.out;omega) h];rfl)
   go_wp2_with fail
   go_ret
   exact ⟨-1,ret_int rfl,by rw [HR2.out];rfl,Hb.out⟩
theorem has_req (A:Option Addr) (c:Nat) (l:List Sx.Req) (bx:Nat) (b:Sx.Req→Bool) (w:World) (hl:Row w (Old w) A 6 (ReqAt w (Old w)) l)
  (HC:∀ x∈l,∀ cs W,Below w.heap.size w W→ReqAt W (Old W) x cs→Calls Tryz.prog 208 #[.agg cs.toArray,.pointer (some ⟨bx,0,none⟩)] W (BoolPost (!b x) W)) :
  Calls Tryz.prog 207 #[.slice A l.length c,.func (.func 208) #[] #[.pointer (some ⟨bx,0,none⟩)]] w (BoolPost (!l.all b) w):=by
 have Hc:=Lh (idx_req A c l bx b w hl HC)
 obtain ⟨R,hR⟩:∃ R,R = !l.all b:=⟨_,rfl⟩
 obtain ⟨m,hm⟩:∃ m,m=l.length:=⟨_,rfl⟩
 rw[←hR,←hm] at Hc ⊢
 clear hl HC hR hm
 go_enter Tryz.func207,Tryz.ntmps207
 go_wp2_with fail
 refine Hc.out.mono ?_
 rintro e w1 ⟨z,rfl,hz,hb1⟩
 have Hz:=Lh hz;have Hb1:=Lh hb1
 clear hz hb1
 go_wp2_with fail
 go_ret
 exact ⟨ret_bool Hz.out,Hb1.out⟩
set_option maxRecDepth 20000 in
set_option maxHeartbeats 2000000 in
theorem clo_req (x:Sx.Req) (cs:List Value) (bx:Nat) (b:Bool) (w:World) (hbx:Blk w bx 219 #[.func (.func 181) #[] #[]]) (hP:ReqAt w (Old w) x cs)
  (H:∀ W,Below w.heap.size w W→ReqAt W (Old W) x cs→Calls Tryz.prog 181 #[.agg cs.toArray] W (BoolPost b W)) :
  Calls Tryz.prog 208 #[.agg cs.toArray,.pointer (some ⟨bx,0,none⟩)] w (BoolPost (!b) w):=by
 have c0:=hbx.cell 0
 have hlt:=hbx.lt
 simp at c0
 have hP':=hP
 obtain ⟨s0,i1,i2,b3,A4,n4,c4,A5,n5,c5,rfl⟩:=form_req hP
 have hbw:Below w.heap.size w (w.alloc (.cells #[.string s0,.int .i64 i1,.int .i64 i2,.bool b3,.slice A4 n4 c4,.slice A5 n5 c5] 108)):=(Below.refl _ _).alloc (Nat.le_refl _) _
 have Hc:=Lh (H _ hbw (old_req hbw hP'))
 have Hbw:=Lh hbw
 clear H hbw hP hP' hbx
 go_enter Tryz.func208,Tryz.ntmps208
 go_wp2_with fail
 refine Hc.out.mono ?_
 rintro e w1 ⟨rfl,hb1⟩
 have Hb1:=Lh (Hbw.out.trans (hb1.mono Hbw.out.size))
 clear hb1
 go_wp2_with fail
 go_ret
 exact ⟨ret_bool rfl,Hb1.out⟩
set_option maxRecDepth 20000 in
set_option maxHeartbeats 2000000 in
theorem all_req (A:Option Addr) (c:Nat) (l:List Sx.Req) (b:Sx.Req→Bool) (w:World) (hl:Row w (Old w) A 6 (ReqAt w (Old w)) l)
  (H:∀ x∈l,∀ cs W,Below w.heap.size w W→ReqAt W (Old W) x cs→Calls Tryz.prog 181 #[.agg cs.toArray] W (BoolPost (b x) W)) :
  Calls Tryz.prog 180 #[.slice A l.length c,.func (.func 181) #[] #[]] w (BoolPost (l.all b) w):=by
 have hbw:Below w.heap.size w (w.alloc (.cells #[.func (.func 181) #[] #[]] 219)):=(Below.refl _ _).alloc (Nat.le_refl _) _
 have hbx:Blk (w.alloc (.cells #[.func (.func 181) #[] #[]] 219)) w.heap.size 219 #[.func (.func 181) #[] #[]]:=Blk.new _ _ _
 have Hc:=Lh (has_req A c l w.heap.size b _ (hl.keep (P':=ReqAt (w.alloc (.cells #[.func (.func 181) #[] #[]] 219)) (Old (w.alloc (.cells #[.func (.func 181) #[] #[]] 219)))) (old_keep hbw) fun _ _ _ h=>old_req hbw h) (fun x hx cs W hW hP=>clo_req x cs w.heap.size (b x) W (hbx.below hW hbx.lt) hP (fun W' hW' hP'=>H x hx cs W' (hbw.trans ((hW.mono hbw.size).trans (hW'.mono (Nat.le_trans hbw.size hW.size)))) hP')))
 obtain ⟨m,hm⟩:∃ m,m=l.length:=⟨_,rfl⟩
 obtain ⟨R,hR⟩:∃ R,R=l.all b:=⟨_,rfl⟩
 rw[←hR,←hm] at Hc
 rw[←hR,←hm]
 have Hbw:=Lh hbw
 clear H hbw hbx hl hm hR
 go_enter Tryz.func180,Tryz.ntmps180
 go_wp2_with fail
 refine Hc.out.mono ?_
 rintro e w1 ⟨rfl,hb1⟩
 have Hb1:=Lh (Hbw.out.trans (hb1.mono Hbw.out.size))
 clear hb1
 go_wp2_with fail
 go_ret
 exact ⟨ret_bool (by simp),Hb1.out⟩
end Go.Proofs.YtjonaidancomgaaGreatDoor
