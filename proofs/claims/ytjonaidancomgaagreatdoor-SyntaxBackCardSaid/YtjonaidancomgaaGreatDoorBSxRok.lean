/- Parts of the proof, joined into one text: SxRok, SxPrC0, SxPrS. -/
import Derived.Test.YtjonaidancomgaaGreatDoorBSxRokA
import Derived.Test.YtjonaidancomgaaGreatDoorBSxRokB
import Derived.Test.YtjonaidancomgaaGreatDoorBSxPrI
import Derived.Test.YtjonaidancomgaaGreatDoorBSxCata

namespace Go.Proofs.YtjonaidancomgaaGreatDoor
open Go.RowKit

theorem Sx.rulesOk_eq (k:Nat):∀ ks:List Sx.Rule,Sx.rulesOk k ks=ks.all (Sx.ruleOk k)
 | []=>rfl
 | r::ks=>by rw [Sx.rulesOk,Sx.rulesOk_eq k ks];rfl
set_option maxRecDepth 20000 in
set_option maxHeartbeats 2000000 in
theorem cloRule (x:Sx.Rule) (cs:List Value) (bx:Nat) (z:Int) (hz:IntKind.i64.wrap (z+1)=z+1) (b:Bool) (w:World) (hbx:Blk w bx 3 #[.int .i64 z]) (hP:RuleAt w (Old w) x cs)
  (H:∀ W,Below w.heap.size w W→RuleAt W (Old W) x cs→Calls Tryz.prog 57 #[.agg cs.toArray,.int .i64 (z+1)] W (BoolPost b W)) :
  Calls Tryz.prog 148 #[.agg cs.toArray,.pointer (some ⟨bx,0,none⟩)] w (BoolPost (!b) w):=by
 have c0:=hbx.cell 0
 have hlt:=hbx.lt
 simp at c0
 have hP':=hP
 obtain ⟨i0,i1,s2,i3,i4,A5,n5,c5,rfl⟩:=form_rule hP
 have hbw:Below w.heap.size w (w.alloc (.cells #[.int .i64 i0,.int .i64 i1,.string s2,.int .i64 i3,.int .i64 i4,.slice A5 n5 c5] 38)):=(Below.refl _ _).alloc (Nat.le_refl _) _
 have Hc:=Lh (H _ hbw (old_rule hbw hP'))
 have Hbw:=Lh hbw
 clear H hbw hP hP' hbx
 go_enter Tryz.func148,Tryz.ntmps148
 go_wp2_with fail
 refine Hc.out.mono ?_
 rintro e w1 ⟨rfl,hb1⟩
 have Hb1:=Lh (Hbw.out.trans (hb1.mono Hbw.out.size))
 clear hb1
 go_wp2_with fail
 go_ret
 exact ⟨ret_bool rfl,Hb1.out⟩
theorem row_of_kids {w:World} {A:Option Addr} {ks:List Sx.Rule} (h:KidsAt w (Old w) A 0 ks) (hl:ks.length≤140737488351232):Row w (Old w) A 6 (RuleAt w (Old w)) ks:=⟨kids_row.1 h,hl⟩
set_option maxRecDepth 20000 in
set_option maxHeartbeats 2000000 in
theorem rokTop (i0 i1 i3 i4:Int) (s2:ByteArray) (A5:Option Addr) (n5 c5:Nat) (w:World):Calls Tryz.prog 57 #[.agg #[.int .i64 i0,.int .i64 i1,.string s2,.int .i64 i3,.int .i64 i4,.slice A5 n5 c5],.int .i64 17] w (BoolPost false w):=by
 have hw0:Below w.heap.size w ((w.alloc (.cells #[.int .i64 i0,.int .i64 i1,.string s2,.int .i64 i3,.int .i64 i4,.slice A5 n5 c5] 38)).alloc (.cells #[.int .i64 17] 3)):=((Below.refl _ _).alloc (Nat.le_refl _) _).alloc (by simp) _
 have HW0:=Lh hw0
 clear hw0
 go_enter Tryz.func57,Tryz.ntmps57
 go_wp2_with fail
 go_ret
 exact ⟨ret_bool rfl,HW0.out⟩
theorem len200 (ks:List Sx.Rule):(!decide ((200:Int) < (ks.length:Int)))=decide (ks.length≤200):=by rw [Bool.eq_iff_iff];simp;omega
theorem len0 (ks:List Sx.Rule):(!decide (0 < ks.length))=ks.isEmpty:=by cases ks <;> simp
theorem len1 (ks:List Sx.Rule):((ks.length:Int) == 1)=(ks.length == 1):=by rw [Bool.eq_iff_iff];simp;omega
theorem bne0 (x:Int):(!(x != 0))=(x == 0):=by cases h:(x == 0) <;> simp [bne,h]
theorem lRuleOk:∀ (k:Nat) (z:Int),z=17 - (k:Int)→k≤16→∀ (r:Sx.Rule) (w:World) (cs:List Value),RuleAt w (Old w) r cs→Calls Tryz.prog 57 #[.agg cs.toArray,.int .i64 z] w (BoolPost (Sx.ruleOk k r) w)
 | 0,z,hz,_,r,w,cs,h=>by
  obtain rfl:z=17:=by omega
  obtain ⟨i0,i1,s2,i3,i4,A5,n5,c5,rfl⟩:=form_rule h
  have e:Sx.ruleOk 0 r=false:=by cases r;rfl
  rw[e]
  exact rokTop i0 i1 i3 i4 s2 A5 n5 c5 w
 | k+1,z,hz,hk,.mk op co nm n d ks,w,cs,h=>by
  have ih:=lRuleOk k (z+1) (by omega) (by omega)
  have hw1:IntKind.i64.wrap (z+1)=z+1:=IntWalk.i64_in _ (by omega)
  have hz16:decide ((16:Int) < z)=false:=decide_eq_false (by omega)
  rw[RuleAt] at h
  obtain ⟨A,c,rfl,hn,hkl,hA⟩:=h
  have hall:∀ W,Below w.heap.size w W→Blk W (w.heap.size+1) 3 #[.int .i64 z]→Calls Tryz.prog 147 #[.slice A ks.length c,.func (.func 148) #[] #[.pointer (some ⟨w.heap.size+1,0,none⟩)]] W (BoolPost (!ks.all (Sx.ruleOk k)) W):=fun W hW hB=>
   has_rule A c ks (w.heap.size+1) (Sx.ruleOk k) W ((row_of_kids hA hkl).keep (P':=RuleAt W (Old W)) (old_keep hW) fun _ _ _ h=>old_rule hW h) (fun x _ cs W' hW' hP=>
    cloRule x cs _ z hw1 _ W' (hB.below hW' hB.lt) hP (fun W2 _ h2=>ih x W2 cs h2))
  unfold intV strV
  have fin:∀ b:Bool,b=Sx.ruleOk (k+1) (.mk op co nm n d ks)→∀ {e:Ending} {w':World},BoolPost b w e w'→BoolPost (Sx.ruleOk (k+1) (.mk op co nm n d ks)) w e w':=fun b hb e w' h=>by rw [←hb];exact h
  by_cases o1:op=1
  ·subst o1
   refine (rok1 z hz16 (Sx.ruleOk k) co n d nm ks A _ c rfl hn w hall).mono fun e w' he=>fin _ ?_ he
   rw[Sx.ruleOk,Sx.rulesOk_eq,len200]
   try rw [len0]
   try rw [len1]
   simp only[bne0]
   rw[Bool.eq_iff_iff]
   simp[and_comm,and_left_comm,and_assoc]
  by_cases o2:op=2
  ·subst o2
   refine (rok2 z hz16 (Sx.ruleOk k) co n d nm ks A _ c rfl hn w hall).mono fun e w' he=>fin _ ?_ he
   rw[Sx.ruleOk,Sx.rulesOk_eq,len200]
   try rw [len0]
   try rw [len1]
   simp only[bne0]
   rw[Bool.eq_iff_iff]
   simp[and_comm,and_left_comm,and_assoc]
  by_cases o3:op=3
  ·subst o3
   refine (rok3 z hz16 (Sx.ruleOk k) co n d nm ks A _ c rfl hn w hall).mono fun e w' he=>fin _ ?_ he
   rw[Sx.ruleOk,Sx.rulesOk_eq,len200]
   try rw [len0]
   try rw [len1]
   simp only[bne0]
   rw[Bool.eq_iff_iff]
   simp[and_comm,and_left_comm,and_assoc]
  by_cases o4:op=4
  ·subst o4
   refine (rok4 z hz16 (Sx.ruleOk k) co n d nm ks A _ c rfl hn w hall).mono fun e w' he=>fin _ ?_ he
   rw[Sx.ruleOk,Sx.rulesOk_eq,len200]
   try rw [len0]
   try rw [len1]
   simp only[bne0]
   rw[Bool.eq_iff_iff]
   simp[and_comm,and_left_comm,and_assoc]
  by_cases o5:op=5
  ·subst o5
   refine (rok5 z hz16 (Sx.ruleOk k) co n d nm ks A _ c rfl hn w hall).mono fun e w' he=>fin _ ?_ he
   rw[Sx.ruleOk,Sx.rulesOk_eq,len200]
   try rw [len0]
   try rw [len1]
   simp only[bne0]
   rw[Bool.eq_iff_iff]
   simp[and_comm,and_left_comm,and_assoc]
  by_cases o6:op=6
  ·subst o6
   refine (rok6 z hz16 (Sx.ruleOk k) co n d nm ks A _ c rfl hn w hall).mono fun e w' he=>fin _ ?_ he
   rw[Sx.ruleOk,Sx.rulesOk_eq,len200]
   try rw [len0]
   try rw [len1]
   simp only[bne0]
   rw[Bool.eq_iff_iff]
   simp[and_comm,and_left_comm,and_assoc]
  by_cases o7:op=7
  ·subst o7
   refine (rok7 z hz16 (Sx.ruleOk k) co n d nm ks A _ c rfl hn w hall).mono fun e w' he=>fin _ ?_ he
   rw[Sx.ruleOk,Sx.rulesOk_eq,len200]
   try rw [len0]
   try rw [len1]
   simp only[bne0]
   rw[Bool.eq_iff_iff]
   simp[and_comm,and_left_comm,and_assoc]
  by_cases o8:op=8
  ·subst o8
   refine (rok8 z hz16 (Sx.ruleOk k) co n d nm ks A _ c rfl hn w hall).mono fun e w' he=>fin _ ?_ he
   rw[Sx.ruleOk,Sx.rulesOk_eq,len200]
   try rw [len0]
   try rw [len1]
   simp only[bne0]
   rw[Bool.eq_iff_iff]
   simp[and_comm,and_left_comm,and_assoc]
  by_cases o9:op=9
  ·subst o9
   refine (rok9 z hz16 (Sx.ruleOk k) co n d nm ks A _ c rfl hn w hall).mono fun e w' he=>fin _ ?_ he
   rw[Sx.ruleOk,Sx.rulesOk_eq,len200]
   try rw [len0]
   try rw [len1]
   simp only[bne0]
   rw[Bool.eq_iff_iff]
   simp[and_comm,and_left_comm,and_assoc]
  refine (rokNo z hz16 (Sx.ruleOk k) op co n d nm ks A _ c rfl hn w (by simpa using o1) (by simpa using o2) (by simpa using o3) (by simpa using o4) (by simpa using o5) (by simpa using o6) (by simpa using o7) (by simpa using o8) (by simpa using o9) hall).mono fun e w' he=>fin _ ?_ he
  rw[Sx.ruleOk]
  simp[o1,o2,o3,o4,o5,o6,o7,o8,o9]
set_option maxRecDepth 20000 in
set_option maxHeartbeats 4000000 in
theorem okCourse0 (nm:List UInt8) (no cr rp:Int) (a0 a1:Int) (a2:ByteArray) (a3 a4:Int) (aA:Option Addr) (an ac:Nat) (b0 b1:Int) (b2:ByteArray) (b3 b4:Int) (bA:Option Addr) (bn bc:Nat) (pn pb:Bool) (hn:nm.length≤140737488351232) (w:World) (hnd:∀ W,Below w.heap.size w W→Calls Tryz.prog 57 #[.agg #[.int .i64 a0,.int .i64 a1,.string a2,.int .i64 a3,.int .i64 a4,.slice aA an ac],.int .i64 1] W (BoolPost pn W)) (hbr:∀ W,Below w.heap.size w W→Calls Tryz.prog 57 #[.agg #[.int .i64 b0,.int .i64 b1,.string b2,.int .i64 b3,.int .i64 b4,.slice bA bn bc],.int .i64 1] W (BoolPost pb W)) :
  Calls Tryz.prog 122 #[.agg #[.string (Lx.bs nm),.int .i64 no,.int .i64 cr,.int .i64 rp,.int .i64 a0,.int .i64 a1,.string a2,.int .i64 a3,.int .i64 a4,.slice aA an ac,.int .i64 b0,.int .i64 b1,.string b2,.int .i64 b3,.int .i64 b4,.slice bA bn bc]] w (BoolPost (Sx.inB no 0 4095 && Lx.isName nm && Sx.inB cr 1 60 && Sx.inB rp 0 2 && pn && pb) w):=by
 obtain ⟨R,hR⟩:∃ R:Bool,R=(Sx.inB no 0 4095 && Lx.isName nm && Sx.inB cr 1 60 && Sx.inB rp 0 2 && pn && pb):=⟨_,rfl⟩
 rw[←hR]
 have hb0:Below w.heap.size w (w.alloc (.cells #[.string (Lx.bs nm),.int .i64 no,.int .i64 cr,.int .i64 rp,.int .i64 a0,.int .i64 a1,.string a2,.int .i64 a3,.int .i64 a4,.slice aA an ac,.int .i64 b0,.int .i64 b1,.string b2,.int .i64 b3,.int .i64 b4,.slice bA bn bc] 58)):=(Below.refl _ _).alloc (Nat.le_refl _) _
 have e0:Blk (w.alloc (.cells #[.string (Lx.bs nm),.int .i64 no,.int .i64 cr,.int .i64 rp,.int .i64 a0,.int .i64 a1,.string a2,.int .i64 a3,.int .i64 a4,.slice aA an ac,.int .i64 b0,.int .i64 b1,.string b2,.int .i64 b3,.int .i64 b4,.slice bA bn bc] 58)) w.heap.size 58 #[.string (Lx.bs nm),.int .i64 no,.int .i64 cr,.int .i64 rp,.int .i64 a0,.int .i64 a1,.string a2,.int .i64 a3,.int .i64 a4,.slice aA an ac,.int .i64 b0,.int .i64 b1,.string b2,.int .i64 b3,.int .i64 b4,.slice bA bn bc]:=Blk.new _ _ _
 have HB0:=Lh hb0
 have E0:=Lh e0
 clear hb0 e0
 have K0:=Lh (fun (W:World) (_:Below w.heap.size w W)=>sIn no 0 4095 W)
 have K1:=Lh (fun (W:World) (_:Below w.heap.size w W)=>sNameB nm W hn)
 have K2:=Lh (fun (W:World) (_:Below w.heap.size w W)=>sIn cr 1 60 W)
 have K3:=Lh (fun (W:World) (_:Below w.heap.size w W)=>sIn rp 0 2 W)
 have K4:=Lh (hnd)
 have K5:=Lh (hbr)
 cases q0:Sx.inB no 0 4095 with
 | false=>
  rw[q0] at K0 hR
  have HR:Hid (R=false):=Lh (by rw [hR];simp)
  clear hR
  go_enter Tryz.func122,Tryz.ntmps122
  go_wp2_with fail
  refine (K0.out _ HB0.out).mono ?_
  rintro e w1 ⟨rfl,hb⟩
  have HB1:=Lh (HB0.out.trans (hb.mono HB0.out.size))
  have y:=E0.out.below hb E0.out.lt
  have E1:=Lh y
  obtain ⟨x0,x1,x2,x3,x4,x5,x6,x7,x8,x9,x10,x11,x12,x13,x14,x15,z1⟩:=cells16 y
  clear hb y
  go_wp2_with fail
  go_ret
  exact ⟨ret_bool HR.out.symm,HB1.out⟩
 | true=>
 rw[q0] at K0 hR
 cases q1:Lx.isName nm with
 | false=>
  rw[q1] at K1 hR
  have HR:Hid (R=false):=Lh (by rw [hR];simp)
  clear hR
  go_enter Tryz.func122,Tryz.ntmps122
  go_wp2_with fail
  refine (K0.out _ HB0.out).mono ?_
  rintro e w1 ⟨rfl,hb⟩
  have HB1:=Lh (HB0.out.trans (hb.mono HB0.out.size))
  have y:=E0.out.below hb E0.out.lt
  have E1:=Lh y
  obtain ⟨x0,x1,x2,x3,x4,x5,x6,x7,x8,x9,x10,x11,x12,x13,x14,x15,z1⟩:=cells16 y
  clear hb y
  go_wp2_with fail
  refine (K1.out _ HB1.out).mono ?_
  rintro e w2 ⟨rfl,hb⟩
  have HB2:=Lh (HB1.out.trans (hb.mono HB1.out.size))
  have y:=E1.out.below hb E1.out.lt
  have E2:=Lh y
  obtain ⟨x0,x1,x2,x3,x4,x5,x6,x7,x8,x9,x10,x11,x12,x13,x14,x15,z2⟩:=cells16 y
  clear hb y
  go_wp2_with fail
  go_ret
  exact ⟨ret_bool HR.out.symm,HB2.out⟩
 | true=>
 rw[q1] at K1 hR
 cases q2:Sx.inB cr 1 60 with
 | false=>
  rw[q2] at K2 hR
  have HR:Hid (R=false):=Lh (by rw [hR];simp)
  clear hR
  go_enter Tryz.func122,Tryz.ntmps122
  go_wp2_with fail
  refine (K0.out _ HB0.out).mono ?_
  rintro e w1 ⟨rfl,hb⟩
  have HB1:=Lh (HB0.out.trans (hb.mono HB0.out.size))
  have y:=E0.out.below hb E0.out.lt
  have E1:=Lh y
  obtain ⟨x0,x1,x2,x3,x4,x5,x6,x7,x8,x9,x10,x11,x12,x13,x14,x15,z1⟩:=cells16 y
  clear hb y
  go_wp2_with fail
  refine (K1.out _ HB1.out).mono ?_
  rintro e w2 ⟨rfl,hb⟩
  have HB2:=Lh (HB1.out.trans (hb.mono HB1.out.size))
  have y:=E1.out.below hb E1.out.lt
  have E2:=Lh y
  obtain ⟨x0,x1,x2,x3,x4,x5,x6,x7,x8,x9,x10,x11,x12,x13,x14,x15,z2⟩:=cells16 y
  clear hb y
  go_wp2_with fail
  refine (K2.out _ HB2.out).mono ?_
  rintro e w3 ⟨rfl,hb⟩
  have HB3:=Lh (HB2.out.trans (hb.mono HB2.out.size))
  have y:=E2.out.below hb E2.out.lt
  have E3:=Lh y
  obtain ⟨x0,x1,x2,x3,x4,x5,x6,x7,x8,x9,x10,x11,x12,x13,x14,x15,z3⟩:=cells16 y
  clear hb y
  go_wp2_with fail
  go_ret
  exact ⟨ret_bool HR.out.symm,HB3.out⟩
 | true=>
 rw[q2] at K2 hR
 cases q3:Sx.inB rp 0 2 with
 | false=>
  rw[q3] at K3 hR
  have HR:Hid (R=false):=Lh (by rw [hR];simp)
  clear hR
  go_enter Tryz.func122,Tryz.ntmps122
  go_wp2_with fail
  refine (K0.out _ HB0.out).mono ?_
  rintro e w1 ⟨rfl,hb⟩
  have HB1:=Lh (HB0.out.trans (hb.mono HB0.out.size))
  have y:=E0.out.below hb E0.out.lt
  have E1:=Lh y
  obtain ⟨x0,x1,x2,x3,x4,x5,x6,x7,x8,x9,x10,x11,x12,x13,x14,x15,z1⟩:=cells16 y
  clear hb y
  go_wp2_with fail
  refine (K1.out _ HB1.out).mono ?_
  rintro e w2 ⟨rfl,hb⟩
  have HB2:=Lh (HB1.out.trans (hb.mono HB1.out.size))
  have y:=E1.out.below hb E1.out.lt
  have E2:=Lh y
  obtain ⟨x0,x1,x2,x3,x4,x5,x6,x7,x8,x9,x10,x11,x12,x13,x14,x15,z2⟩:=cells16 y
  clear hb y
  go_wp2_with fail
  refine (K2.out _ HB2.out).mono ?_
  rintro e w3 ⟨rfl,hb⟩
  have HB3:=Lh (HB2.out.trans (hb.mono HB2.out.size))
  have y:=E2.out.below hb E2.out.lt
  have E3:=Lh y
  obtain ⟨x0,x1,x2,x3,x4,x5,x6,x7,x8,x9,x10,x11,x12,x13,x14,x15,z3⟩:=cells16 y
  clear hb y
  go_wp2_with fail
  refine (K3.out _ HB3.out).mono ?_
  rintro e w4 ⟨rfl,hb⟩
  have HB4:=Lh (HB3.out.trans (hb.mono HB3.out.size))
  have y:=E3.out.below hb E3.out.lt
  have E4:=Lh y
  obtain ⟨x0,x1,x2,x3,x4,x5,x6,x7,x8,x9,x10,x11,x12,x13,x14,x15,z4⟩:=cells16 y
  clear hb y
  go_wp2_with fail
  go_ret
  exact ⟨ret_bool HR.out.symm,HB4.out⟩
 | true=>
 rw[q3] at K3 hR
 cases q4:pn with
 | false=>
  rw[q4] at K4 hR
  have HR:Hid (R=false):=Lh (by rw [hR];simp)
  clear hR
  go_enter Tryz.func122,Tryz.ntmps122
  go_wp2_with fail
  refine (K0.out _ HB0.out).mono ?_
  rintro e w1 ⟨rfl,hb⟩
  have HB1:=Lh (HB0.out.trans (hb.mono HB0.out.size))
  have y:=E0.out.below hb E0.out.lt
  have E1:=Lh y
  obtain ⟨x0,x1,x2,x3,x4,x5,x6,x7,x8,x9,x10,x11,x12,x13,x14,x15,z1⟩:=cells16 y
  clear hb y
  go_wp2_with fail
  refine (K1.out _ HB1.out).mono ?_
  rintro e w2 ⟨rfl,hb⟩
  have HB2:=Lh (HB1.out.trans (hb.mono HB1.out.size))
  have y:=E1.out.below hb E1.out.lt
  have E2:=Lh y
  obtain ⟨x0,x1,x2,x3,x4,x5,x6,x7,x8,x9,x10,x11,x12,x13,x14,x15,z2⟩:=cells16 y
  clear hb y
  go_wp2_with fail
  refine (K2.out _ HB2.out).mono ?_
  rintro e w3 ⟨rfl,hb⟩
  have HB3:=Lh (HB2.out.trans (hb.mono HB2.out.size))
  have y:=E2.out.below hb E2.out.lt
  have E3:=Lh y
  obtain ⟨x0,x1,x2,x3,x4,x5,x6,x7,x8,x9,x10,x11,x12,x13,x14,x15,z3⟩:=cells16 y
  clear hb y
  go_wp2_with fail
  refine (K3.out _ HB3.out).mono ?_
  rintro e w4 ⟨rfl,hb⟩
  have HB4:=Lh (HB3.out.trans (hb.mono HB3.out.size))
  have y:=E3.out.below hb E3.out.lt
  have E4:=Lh y
  obtain ⟨x0,x1,x2,x3,x4,x5,x6,x7,x8,x9,x10,x11,x12,x13,x14,x15,z4⟩:=cells16 y
  clear hb y
  go_wp2_with fail
  refine (K4.out _ HB4.out).mono ?_
  rintro e w5 ⟨rfl,hb⟩
  have HB5:=Lh (HB4.out.trans (hb.mono HB4.out.size))
  have y:=E4.out.below hb E4.out.lt
  have E5:=Lh y
  obtain ⟨x0,x1,x2,x3,x4,x5,x6,x7,x8,x9,x10,x11,x12,x13,x14,x15,z5⟩:=cells16 y
  clear hb y
  go_wp2_with fail
  go_ret
  exact ⟨ret_bool HR.out.symm,HB5.out⟩
 | true=>
 rw[q4] at K4 hR
 have HR:Hid (R=(pb)):=Lh (by rw [hR];simp)
 clear hR
 go_enter Tryz.func122,Tryz.ntmps122
 go_wp2_with fail
 refine (K0.out _ HB0.out).mono ?_
 rintro e w1 ⟨rfl,hb⟩
 have HB1:=Lh (HB0.out.trans (hb.mono HB0.out.size))
 have y:=E0.out.below hb E0.out.lt
 have E1:=Lh y
 obtain ⟨x0,x1,x2,x3,x4,x5,x6,x7,x8,x9,x10,x11,x12,x13,x14,x15,z1⟩:=cells16 y
 clear hb y
 go_wp2_with fail
 refine (K1.out _ HB1.out).mono ?_
 rintro e w2 ⟨rfl,hb⟩
 have HB2:=Lh (HB1.out.trans (hb.mono HB1.out.size))
 have y:=E1.out.below hb E1.out.lt
 have E2:=Lh y
 obtain ⟨x0,x1,x2,x3,x4,x5,x6,x7,x8,x9,x10,x11,x12,x13,x14,x15,z2⟩:=cells16 y
 clear hb y
 go_wp2_with fail
 refine (K2.out _ HB2.out).mono ?_
 rintro e w3 ⟨rfl,hb⟩
 have HB3:=Lh (HB2.out.trans (hb.mono HB2.out.size))
 have y:=E2.out.below hb E2.out.lt
 have E3:=Lh y
 obtain ⟨x0,x1,x2,x3,x4,x5,x6,x7,x8,x9,x10,x11,x12,x13,x14,x15,z3⟩:=cells16 y
 clear hb y
 go_wp2_with fail
 refine (K3.out _ HB3.out).mono ?_
 rintro e w4 ⟨rfl,hb⟩
 have HB4:=Lh (HB3.out.trans (hb.mono HB3.out.size))
 have y:=E3.out.below hb E3.out.lt
 have E4:=Lh y
 obtain ⟨x0,x1,x2,x3,x4,x5,x6,x7,x8,x9,x10,x11,x12,x13,x14,x15,z4⟩:=cells16 y
 clear hb y
 go_wp2_with fail
 refine (K4.out _ HB4.out).mono ?_
 rintro e w5 ⟨rfl,hb⟩
 have HB5:=Lh (HB4.out.trans (hb.mono HB4.out.size))
 have y:=E4.out.below hb E4.out.lt
 have E5:=Lh y
 obtain ⟨x0,x1,x2,x3,x4,x5,x6,x7,x8,x9,x10,x11,x12,x13,x14,x15,z5⟩:=cells16 y
 clear hb y
 go_wp2_with fail
 refine (K5.out _ HB5.out).mono ?_
 rintro e w6 ⟨rfl,hb⟩
 have HB6:=Lh (HB5.out.trans (hb.mono HB5.out.size))
 have y:=E5.out.below hb E5.out.lt
 have E6:=Lh y
 obtain ⟨x0,x1,x2,x3,x4,x5,x6,x7,x8,x9,x10,x11,x12,x13,x14,x15,z6⟩:=cells16 y
 clear hb y
 go_wp2_with fail
 go_ret
 exact ⟨ret_bool HR.out.symm,HB6.out⟩
theorem okCourse (x:Sx.Course) (cs:List Value) (w:World) (h:CourseAt w (Old w) x cs):Calls Tryz.prog 122 #[.agg cs.toArray] w (BoolPost (Sx.courseOk x) w):=by
 obtain ⟨cn,cb,rfl,hn,h1,h2⟩:=h
 have k1:=fun W (hW:Below w.heap.size w W)=>lRuleOk 16 1 (by decide) (by decide) x.need W cn (old_rule hW h1)
 have k2:=fun W (hW:Below w.heap.size w W)=>lRuleOk 16 1 (by decide) (by decide) x.bar W cb (old_rule hW h2)
 obtain ⟨i0,i1,s2,i3,i4,A5,n5,c5,rfl⟩:=form_rule h1
 obtain ⟨j0,j1,t2,j3,j4,B5,m5,d5,rfl⟩:=form_rule h2
 exact okCourse0 x.name x.number x.credits x.rep i0 i1 s2 i3 i4 A5 n5 c5 j0 j1 t2 j3 j4 B5 m5 d5 _ _ hn w k1 k2
set_option maxRecDepth 20000 in
set_option maxHeartbeats 4000000 in
theorem okCat0 (A0:Option Addr) (n0 c0:Nat) (b0:Bool) (A1:Option Addr) (n1 c1:Nat) (b1:Bool) (A2:Option Addr) (n2 c2:Nat) (b2:Bool) (A3:Option Addr) (n3 c3:Nat) (b3:Bool) (A4:Option Addr) (n4 c4:Nat) (b4:Bool) (A5:Option Addr) (n5 c5:Nat) (b5:Bool) (A6:Option Addr) (n6 c6:Nat) (b6:Bool) (w:World) (h0:∀ W,Below w.heap.size w W→Calls Tryz.prog 121 #[.slice A0 n0 c0,.func (.func 122) #[] #[]] W (BoolPost b0 W)) (h1:∀ W,Below w.heap.size w W→Calls Tryz.prog 123 #[.slice A1 n1 c1,.func (.func 115) #[] #[]] W (BoolPost b1 W)) (h2:∀ W,Below w.heap.size w W→Calls Tryz.prog 124 #[.slice A2 n2 c2,.func (.func 125) #[] #[]] W (BoolPost b2 W)) (h3:∀ W,Below w.heap.size w W→Calls Tryz.prog 126 #[.slice A3 n3 c3,.func (.func 127) #[] #[]] W (BoolPost b3 W)) (h4:∀ W,Below w.heap.size w W→Calls Tryz.prog 128 #[.slice A4 n4 c4,.func (.func 117) #[] #[]] W (BoolPost b4 W)) (h5:∀ W,Below w.heap.size w W→Calls Tryz.prog 126 #[.slice A5 n5 c5,.func (.func 127) #[] #[]] W (BoolPost b5 W)) (h6:∀ W,Below w.heap.size w W→Calls Tryz.prog 129 #[.slice A6 n6 c6,.func (.func 120) #[] #[]] W (BoolPost b6 W)) :
  Calls Tryz.prog 48 #[.agg #[.slice A0 n0 c0,.slice A1 n1 c1,.slice A2 n2 c2,.slice A3 n3 c3,.slice A4 n4 c4,.slice A5 n5 c5,.slice A6 n6 c6]] w (BoolPost (b0 && b1 && b2 && b3 && b4 && b5 && b6) w):=by
 obtain ⟨R,hR⟩:∃ R:Bool,R=(b0 && b1 && b2 && b3 && b4 && b5 && b6):=⟨_,rfl⟩
 rw[←hR]
 have hb0:Below w.heap.size w (w.alloc (.cells #[.slice A0 n0 c0,.slice A1 n1 c1,.slice A2 n2 c2,.slice A3 n3 c3,.slice A4 n4 c4,.slice A5 n5 c5,.slice A6 n6 c6] 30)):=(Below.refl _ _).alloc (Nat.le_refl _) _
 have e0:Blk (w.alloc (.cells #[.slice A0 n0 c0,.slice A1 n1 c1,.slice A2 n2 c2,.slice A3 n3 c3,.slice A4 n4 c4,.slice A5 n5 c5,.slice A6 n6 c6] 30)) w.heap.size 30 #[.slice A0 n0 c0,.slice A1 n1 c1,.slice A2 n2 c2,.slice A3 n3 c3,.slice A4 n4 c4,.slice A5 n5 c5,.slice A6 n6 c6]:=Blk.new _ _ _
 have HB0:=Lh hb0
 have E0:=Lh e0
 clear hb0 e0
 have K0:=Lh (h0)
 have K1:=Lh (h1)
 have K2:=Lh (h2)
 have K3:=Lh (h3)
 have K4:=Lh (h4)
 have K5:=Lh (h5)
 have K6:=Lh (h6)
 cases q0:b0 with
 | false=>
  rw[q0] at K0 hR
  have HR:Hid (R=false):=Lh (by rw [hR];simp)
  clear hR
  go_enter Tryz.func48,Tryz.ntmps48
  go_wp2_with fail
  refine (K0.out _ HB0.out).mono ?_
  rintro e w1 ⟨rfl,hb⟩
  have HB1:=Lh (HB0.out.trans (hb.mono HB0.out.size))
  have y:=E0.out.below hb E0.out.lt
  have E1:=Lh y
  obtain ⟨x0,x1,x2,x3,x4,x5,x6,z1⟩:=cells7 y
  clear hb y
  go_wp2_with fail
  go_ret
  exact ⟨ret_bool HR.out.symm,HB1.out⟩
 | true=>
 rw[q0] at K0 hR
 cases q1:b1 with
 | false=>
  rw[q1] at K1 hR
  have HR:Hid (R=false):=Lh (by rw [hR];simp)
  clear hR
  go_enter Tryz.func48,Tryz.ntmps48
  go_wp2_with fail
  refine (K0.out _ HB0.out).mono ?_
  rintro e w1 ⟨rfl,hb⟩
  have HB1:=Lh (HB0.out.trans (hb.mono HB0.out.size))
  have y:=E0.out.below hb E0.out.lt
  have E1:=Lh y
  obtain ⟨x0,x1,x2,x3,x4,x5,x6,z1⟩:=cells7 y
  clear hb y
  go_wp2_with fail
  refine (K1.out _ HB1.out).mono ?_
  rintro e w2 ⟨rfl,hb⟩
  have HB2:=Lh (HB1.out.trans (hb.mono HB1.out.size))
  have y:=E1.out.below hb E1.out.lt
  have E2:=Lh y
  obtain ⟨x0,x1,x2,x3,x4,x5,x6,z2⟩:=cells7 y
  clear hb y
  go_wp2_with fail
  go_ret
  exact ⟨ret_bool HR.out.symm,HB2.out⟩
 | true=>
 rw[q1] at K1 hR
 cases q2:b2 with
 | false=>
  rw[q2] at K2 hR
  have HR:Hid (R=false):=Lh (by rw [hR];simp)
  clear hR
  go_enter Tryz.func48,Tryz.ntmps48
  go_wp2_with fail
  refine (K0.out _ HB0.out).mono ?_
  rintro e w1 ⟨rfl,hb⟩
  have HB1:=Lh (HB0.out.trans (hb.mono HB0.out.size))
  have y:=E0.out.below hb E0.out.lt
  have E1:=Lh y
  obtain ⟨x0,x1,x2,x3,x4,x5,x6,z1⟩:=cells7 y
  clear hb y
  go_wp2_with fail
  refine (K1.out _ HB1.out).mono ?_
  rintro e w2 ⟨rfl,hb⟩
  have HB2:=Lh (HB1.out.trans (hb.mono HB1.out.size))
  have y:=E1.out.below hb E1.out.lt
  have E2:=Lh y
  obtain ⟨x0,x1,x2,x3,x4,x5,x6,z2⟩:=cells7 y
  clear hb y
  go_wp2_with fail
  refine (K2.out _ HB2.out).mono ?_
  rintro e w3 ⟨rfl,hb⟩
  have HB3:=Lh (HB2.out.trans (hb.mono HB2.out.size))
  have y:=E2.out.below hb E2.out.lt
  have E3:=Lh y
  obtain ⟨x0,x1,x2,x3,x4,x5,x6,z3⟩:=cells7 y
  clear hb y
  go_wp2_with fail
  go_ret
  exact ⟨ret_bool HR.out.symm,HB3.out⟩
 | true=>
 rw[q2] at K2 hR
 cases q3:b3 with
 | false=>
  rw[q3] at K3 hR
  have HR:Hid (R=false):=Lh (by rw [hR];simp)
  clear hR
  go_enter Tryz.func48,Tryz.ntmps48
  go_wp2_with fail
  refine (K0.out _ HB0.out).mono ?_
  rintro e w1 ⟨rfl,hb⟩
  have HB1:=Lh (HB0.out.trans (hb.mono HB0.out.size))
  have y:=E0.out.below hb E0.out.lt
  have E1:=Lh y
  obtain ⟨x0,x1,x2,x3,x4,x5,x6,z1⟩:=cells7 y
  clear hb y
  go_wp2_with fail
  refine (K1.out _ HB1.out).mono ?_
  rintro e w2 ⟨rfl,hb⟩
  have HB2:=Lh (HB1.out.trans (hb.mono HB1.out.size))
  have y:=E1.out.below hb E1.out.lt
  have E2:=Lh y
  obtain ⟨x0,x1,x2,x3,x4,x5,x6,z2⟩:=cells7 y
  clear hb y
  go_wp2_with fail
  refine (K2.out _ HB2.out).mono ?_
  rintro e w3 ⟨rfl,hb⟩
  have HB3:=Lh (HB2.out.trans (hb.mono HB2.out.size))
  have y:=E2.out.below hb E2.out.lt
  have E3:=Lh y
  obtain ⟨x0,x1,x2,x3,x4,x5,x6,z3⟩:=cells7 y
  clear hb y
  go_wp2_with fail
  refine (K3.out _ HB3.out).mono ?_
  rintro e w4 ⟨rfl,hb⟩
  have HB4:=Lh (HB3.out.trans (hb.mono HB3.out.size))
  have y:=E3.out.below hb E3.out.lt
  have E4:=Lh y
  obtain ⟨x0,x1,x2,x3,x4,x5,x6,z4⟩:=cells7 y
  clear hb y
  go_wp2_with fail
  go_ret
  exact ⟨ret_bool HR.out.symm,HB4.out⟩
 | true=>
 rw[q3] at K3 hR
 cases q4:b4 with
 | false=>
  rw[q4] at K4 hR
  have HR:Hid (R=false):=Lh (by rw [hR];simp)
  clear hR
  go_enter Tryz.func48,Tryz.ntmps48
  go_wp2_with fail
  refine (K0.out _ HB0.out).mono ?_
  rintro e w1 ⟨rfl,hb⟩
  have HB1:=Lh (HB0.out.trans (hb.mono HB0.out.size))
  have y:=E0.out.below hb E0.out.lt
  have E1:=Lh y
  obtain ⟨x0,x1,x2,x3,x4,x5,x6,z1⟩:=cells7 y
  clear hb y
  go_wp2_with fail
  refine (K1.out _ HB1.out).mono ?_
  rintro e w2 ⟨rfl,hb⟩
  have HB2:=Lh (HB1.out.trans (hb.mono HB1.out.size))
  have y:=E1.out.below hb E1.out.lt
  have E2:=Lh y
  obtain ⟨x0,x1,x2,x3,x4,x5,x6,z2⟩:=cells7 y
  clear hb y
  go_wp2_with fail
  refine (K2.out _ HB2.out).mono ?_
  rintro e w3 ⟨rfl,hb⟩
  have HB3:=Lh (HB2.out.trans (hb.mono HB2.out.size))
  have y:=E2.out.below hb E2.out.lt
  have E3:=Lh y
  obtain ⟨x0,x1,x2,x3,x4,x5,x6,z3⟩:=cells7 y
  clear hb y
  go_wp2_with fail
  refine (K3.out _ HB3.out).mono ?_
  rintro e w4 ⟨rfl,hb⟩
  have HB4:=Lh (HB3.out.trans (hb.mono HB3.out.size))
  have y:=E3.out.below hb E3.out.lt
  have E4:=Lh y
  obtain ⟨x0,x1,x2,x3,x4,x5,x6,z4⟩:=cells7 y
  clear hb y
  go_wp2_with fail
  refine (K4.out _ HB4.out).mono ?_
  rintro e w5 ⟨rfl,hb⟩
  have HB5:=Lh (HB4.out.trans (hb.mono HB4.out.size))
  have y:=E4.out.below hb E4.out.lt
  have E5:=Lh y
  obtain ⟨x0,x1,x2,x3,x4,x5,x6,z5⟩:=cells7 y
  clear hb y
  go_wp2_with fail
  go_ret
  exact ⟨ret_bool HR.out.symm,HB5.out⟩
 | true=>
 rw[q4] at K4 hR
 cases q5:b5 with
 | false=>
  rw[q5] at K5 hR
  have HR:Hid (R=false):=Lh (by rw [hR];simp)
  clear hR
  go_enter Tryz.func48,Tryz.ntmps48
  go_wp2_with fail
  refine (K0.out _ HB0.out).mono ?_
  rintro e w1 ⟨rfl,hb⟩
  have HB1:=Lh (HB0.out.trans (hb.mono HB0.out.size))
  have y:=E0.out.below hb E0.out.lt
  have E1:=Lh y
  obtain ⟨x0,x1,x2,x3,x4,x5,x6,z1⟩:=cells7 y
  clear hb y
  go_wp2_with fail
  refine (K1.out _ HB1.out).mono ?_
  rintro e w2 ⟨rfl,hb⟩
  have HB2:=Lh (HB1.out.trans (hb.mono HB1.out.size))
  have y:=E1.out.below hb E1.out.lt
  have E2:=Lh y
  obtain ⟨x0,x1,x2,x3,x4,x5,x6,z2⟩:=cells7 y
  clear hb y
  go_wp2_with fail
  refine (K2.out _ HB2.out).mono ?_
  rintro e w3 ⟨rfl,hb⟩
  have HB3:=Lh (HB2.out.trans (hb.mono HB2.out.size))
  have y:=E2.out.below hb E2.out.lt
  have E3:=Lh y
  obtain ⟨x0,x1,x2,x3,x4,x5,x6,z3⟩:=cells7 y
  clear hb y
  go_wp2_with fail
  refine (K3.out _ HB3.out).mono ?_
  rintro e w4 ⟨rfl,hb⟩
  have HB4:=Lh (HB3.out.trans (hb.mono HB3.out.size))
  have y:=E3.out.below hb E3.out.lt
  have E4:=Lh y
  obtain ⟨x0,x1,x2,x3,x4,x5,x6,z4⟩:=cells7 y
  clear hb y
  go_wp2_with fail
  refine (K4.out _ HB4.out).mono ?_
  rintro e w5 ⟨rfl,hb⟩
  have HB5:=Lh (HB4.out.trans (hb.mono HB4.out.size))
  have y:=E4.out.below hb E4.out.lt
  have E5:=Lh y
  obtain ⟨x0,x1,x2,x3,x4,x5,x6,z5⟩:=cells7 y
  clear hb y
  go_wp2_with fail
  refine (K5.out _ HB5.out).mono ?_
  rintro e w6 ⟨rfl,hb⟩
  have HB6:=Lh (HB5.out.trans (hb.mono HB5.out.size))
  have y:=E5.out.below hb E5.out.lt
  have E6:=Lh y
  obtain ⟨x0,x1,x2,x3,x4,x5,x6,z6⟩:=cells7 y
  clear hb y
  go_wp2_with fail
  go_ret
  exact ⟨ret_bool HR.out.symm,HB6.out⟩
 | true=>
 rw[q5] at K5 hR
 have HR:Hid (R=(b6)):=Lh (by rw [hR];simp)
 clear hR
 go_enter Tryz.func48,Tryz.ntmps48
 go_wp2_with fail
 refine (K0.out _ HB0.out).mono ?_
 rintro e w1 ⟨rfl,hb⟩
 have HB1:=Lh (HB0.out.trans (hb.mono HB0.out.size))
 have y:=E0.out.below hb E0.out.lt
 have E1:=Lh y
 obtain ⟨x0,x1,x2,x3,x4,x5,x6,z1⟩:=cells7 y
 clear hb y
 go_wp2_with fail
 refine (K1.out _ HB1.out).mono ?_
 rintro e w2 ⟨rfl,hb⟩
 have HB2:=Lh (HB1.out.trans (hb.mono HB1.out.size))
 have y:=E1.out.below hb E1.out.lt
 have E2:=Lh y
 obtain ⟨x0,x1,x2,x3,x4,x5,x6,z2⟩:=cells7 y
 clear hb y
 go_wp2_with fail
 refine (K2.out _ HB2.out).mono ?_
 rintro e w3 ⟨rfl,hb⟩
 have HB3:=Lh (HB2.out.trans (hb.mono HB2.out.size))
 have y:=E2.out.below hb E2.out.lt
 have E3:=Lh y
 obtain ⟨x0,x1,x2,x3,x4,x5,x6,z3⟩:=cells7 y
 clear hb y
 go_wp2_with fail
 refine (K3.out _ HB3.out).mono ?_
 rintro e w4 ⟨rfl,hb⟩
 have HB4:=Lh (HB3.out.trans (hb.mono HB3.out.size))
 have y:=E3.out.below hb E3.out.lt
 have E4:=Lh y
 obtain ⟨x0,x1,x2,x3,x4,x5,x6,z4⟩:=cells7 y
 clear hb y
 go_wp2_with fail
 refine (K4.out _ HB4.out).mono ?_
 rintro e w5 ⟨rfl,hb⟩
 have HB5:=Lh (HB4.out.trans (hb.mono HB4.out.size))
 have y:=E4.out.below hb E4.out.lt
 have E5:=Lh y
 obtain ⟨x0,x1,x2,x3,x4,x5,x6,z5⟩:=cells7 y
 clear hb y
 go_wp2_with fail
 refine (K5.out _ HB5.out).mono ?_
 rintro e w6 ⟨rfl,hb⟩
 have HB6:=Lh (HB5.out.trans (hb.mono HB5.out.size))
 have y:=E5.out.below hb E5.out.lt
 have E6:=Lh y
 obtain ⟨x0,x1,x2,x3,x4,x5,x6,z6⟩:=cells7 y
 clear hb y
 go_wp2_with fail
 refine (K6.out _ HB6.out).mono ?_
 rintro e w7 ⟨rfl,hb⟩
 have HB7:=Lh (HB6.out.trans (hb.mono HB6.out.size))
 have y:=E6.out.below hb E6.out.lt
 have E7:=Lh y
 obtain ⟨x0,x1,x2,x3,x4,x5,x6,z7⟩:=cells7 y
 clear hb y
 go_wp2_with fail
 go_ret
 exact ⟨ret_bool HR.out.symm,HB7.out⟩
theorem okCat (x:Sx.Cat) (cs:List Value) (w:World) (h:CatAt w (Old w) x cs):Calls Tryz.prog 48 #[.agg cs.toArray] w (BoolPost (Sx.catOk x) w):=by
 obtain ⟨A0,c0,A1,c1,A2,c2,A3,c3,A4,c4,A5,c5,A6,c6,rfl,h0,h1,h2,h3,h4,h5,h6⟩:=h
 exact okCat0 A0 _ c0 _ A1 _ c1 _ A2 _ c2 _ A3 _ c3 _ A4 _ c4 _ A5 _ c5 _ A6 _ c6 _ w
  (fun W hW=>all_course A0 c0 x.courses Sx.courseOk W (h0.keep (P':=CourseAt W (Old W)) (old_keep hW) fun _ _ _ h=>old_course hW h) (fun x _ cs W' _ h=>okCourse x cs W' h))
  (fun W hW=>all_pair A1 c1 x.same Sx.pairOk W (h1.keep (P':=PairAt) (old_keep hW) fun _ _ _ h=>h) (fun x _ cs W' _ h=>okPair x cs W' h))
  (fun W hW=>all_prog A2 c2 x.progs Sx.progOk W (h2.keep (P':=ProgAt W (Old W)) (old_keep hW) fun _ _ _ h=>old_prog hW h) (fun x _ cs W' _ h=>okProg x cs W' h))
  (fun W hW=>all_cls A3 c3 x.classes Sx.clsOk W (h3.keep (P':=ClsAt) (old_keep hW) fun _ _ _ h=>h) (fun x _ cs W' _ h=>okCls x cs W' h))
  (fun W hW=>all_fee A4 c4 x.fees Sx.feeOk W (h4.keep (P':=FeeAt) (old_keep hW) fun _ _ _ h=>h) (fun x _ cs W' _ h=>okFee x cs W' h))
  (fun W hW=>all_cls A5 c5 x.honours Sx.clsOk W (h5.keep (P':=ClsAt) (old_keep hW) fun _ _ _ h=>h) (fun x _ cs W' _ h=>okCls x cs W' h))
  (fun W hW=>all_clause A6 c6 x.clauses Sx.clauseOk W (h6.keep (P':=ClauseAt) (old_keep hW) fun _ _ _ h=>h) (fun x _ cs W' _ h=>okClause x cs W' h))
end Go.Proofs.YtjonaidancomgaaGreatDoor

namespace Go.Proofs.YtjonaidancomgaaGreatDoor
open Go.RowKit

end Go.Proofs.YtjonaidancomgaaGreatDoor

namespace Go.Proofs.YtjonaidancomgaaGreatDoor
open Go.RowKit

def SrcPost (s:List UInt8) (x:Int) (w:World) (e:Ending) (w':World):Prop:=e = .returned (.tuple #[.string (Lx.bs s),.int .i64 x])∧Below w.heap.size w w'
theorem PrSt.new (w:World):PrSt w.heap.size [] (w.alloc (.cells #[.slice none 0 0] 110)):=
 ⟨.slice none 0 0,Blk.new _ _ _,by refine ⟨?_,.inl ⟨rfl,rfl⟩⟩;simp⟩
theorem PrSt.toks {g:Nat} {l:List Lx.Tok} {w:World} (h:PrSt g l w) (hl:l.length≤65536) (ht:∀ t∈l,t.text.length≤65536):∃ A c,w.cell? ⟨g,0,none⟩=some (.slice A l.length c)∧Toks w w.heap.size A l:=by
 obtain ⟨vT,hb,hown⟩:=h
 obtain ⟨A,c,rfl⟩:∃ A c,vT = .slice A l.length c:=by
  rcases hown.2 with ⟨rfl,h0⟩ | ⟨z,cap,cur,e,-⟩
  ·exact ⟨_,_,by rw [h0]⟩
  ·exact ⟨_,_,e⟩
 exact ⟨A,c,by have:=hb.cell 0;simpa using this,toks_own hown hl ht⟩
set_option maxRecDepth 20000 in
set_option maxHeartbeats 4000000 in
theorem sPrintRuleBad (r:Sx.Rule) (cs:List Value) (w:World) (h:RuleAt w (Old w) r cs) (hk:Sx.ruleOk 16 r=false):Calls Tryz.prog 22 #[.agg cs.toArray] w (SrcPost [] 100 w):=by
 obtain ⟨i0,i1,s2,i3,i4,A5,n5,c5,rfl⟩:=form_rule h
 obtain ⟨W,hW⟩:∃ W,W=w.alloc (.cells #[.int .i64 i0,.int .i64 i1,.string s2,.int .i64 i3,.int .i64 i4,.slice A5 n5 c5] 38):=⟨_,rfl⟩
 have hbw:Below w.heap.size w W:=by rw [hW];exact (Below.refl _ _).alloc (Nat.le_refl _) _
 have K:=Lh (lRuleOk 16 1 (by decide) (by decide) r W _ (old_rule hbw h))
 rw[hk] at K
 have HB:=Lh hbw
 clear h hk hbw
 go_enter Tryz.func22,Tryz.ntmps22
 go_wp2_with fail
 rw[←hW]
 refine K.out.mono ?_
 rintro e w1 ⟨rfl,hb⟩
 have HB1:=Lh (HB.out.trans (hb.mono HB.out.size))
 clear hb
 go_wp2_with fail
 go_ret2
 exact ⟨rfl,HB1.out⟩
set_option maxRecDepth 20000 in
set_option maxHeartbeats 4000000 in
theorem sPrintRule (N:Nat) (r:Sx.Rule) (cs:List Value) (s:List UInt8) (w:World) (he:EnvS N w) (h:RuleAt w (Old w) r cs) (hk:Sx.ruleOk 16 r=true) (hl:(Sx.ruleT r).length≤60000) (ht:Lx.text (Sx.ruleT r)=some s) (hx:∀ t∈Sx.ruleT r,t.text.length≤65536) :
  Calls Tryz.prog 22 #[.agg cs.toArray] w (SrcPost s 0 w):=by
 obtain ⟨i0,i1,s2,i3,i4,A5,n5,c5,rfl⟩:=form_rule h
 obtain ⟨W,hW⟩:∃ W,W=w.alloc (.cells #[.int .i64 i0,.int .i64 i1,.string s2,.int .i64 i3,.int .i64 i4,.slice A5 n5 c5] 38):=⟨_,rfl⟩
 have hbw:Below w.heap.size w W:=by rw [hW];exact (Below.refl _ _).alloc (Nat.le_refl _) _
 have hbx:Blk W w.heap.size 38 #[.int .i64 i0,.int .i64 i1,.string s2,.int .i64 i3,.int .i64 i4,.slice A5 n5 c5]:=by rw [hW];exact Blk.new _ _ _
 have K:=Lh (lRuleOk 16 1 (by decide) (by decide) r W _ (old_rule hbw h))
 rw[hk] at K
 have HB:=Lh hbw;have HBx:=Lh hbx;have HE:=Lh he;have H:=Lh h;have Hk:=Lh hk;have Hl:=Lh hl;have Ht:=Lh ht;have Hx:=Lh hx
 have hN:=he.size
 clear h hk hbw hbx he hl ht hx
 go_enter Tryz.func22,Tryz.ntmps22
 go_wp2_with fail
 rw[←hW]
 refine K.out.mono ?_
 rintro e w1 ⟨rfl,hb⟩
 have HB1:=Lh (HB.out.trans (hb.mono HB.out.size))
 have y:=HBx.out.below hb HBx.out.lt
 have x0:=y.cell 0;have x1:=y.cell 1;have x2:=y.cell 2;have x3:=y.cell 3;have x4:=y.cell 4;have x5:=y.cell 5
 simp at x0 x1 x2 x3 x4 x5
 have z1:=y.lt
 clear hb y
 go_wp2_with fail
 obtain ⟨W2,hW2⟩:∃ W2,W2=w1.alloc (.cells #[.slice none 0 0] 110):=⟨_,rfl⟩
 have hb2:Below w1.heap.size w1 W2:=by rw [hW2];exact (Below.refl _ _).alloc (Nat.le_refl _) _
 have hb3:=HB1.out.trans (hb2.mono HB1.out.size)
 have hst:PrSt w1.heap.size [] W2:=by rw [hW2];exact PrSt.new w1
 have hsay:=lRulePr w1.heap.size N (Nat.le_trans hN HB1.out.size) 16 r Hk.out _ W2 (HE.out.next hb3) (RuleAt.keep (fun b hb=>⟨Nat.lt_of_lt_of_le hb HB1.out.size,fun i=>hb3.cell (p:=⟨b,i,none⟩) hb⟩) _ _ H.out)
 rw[←hW2]
 refine (hsay.2 [] W2 hst (Below.refl _ _) (by simpa using Hl.out)).mono ?_
 rintro e w3 ⟨rfl,h3,h4,h5⟩
 rw[List.nil_append] at h3
 obtain ⟨A,c,g0,hT⟩:=h3.toks (by have:=Hl.out;omega) Hx.out
 have hlt3:=h3.lt
 have hb4:Below w.heap.size w w3:=hb3.trans (h4.mono HB1.out.size)
 have hfin:=lTextOk A c (Sx.ruleT r) s w3 (HE.out.next hb4).env hT (by have:=Hl.out;omega) Ht.out
 have Hfin:=Lh hfin;have HB4:=Lh hb4
 clear hfin hb4 hT h3 h4 h5 hsay hst hb3 hb2
 go_wp2_with fail
 refine Hfin.out.mono ?_
 rintro e w5 ⟨rfl,hb5,-⟩
 have HB5:=Lh (HB4.out.trans (hb5.mono HB4.out.size))
 clear hb5
 go_wp2_with fail
 go_ret2
 exact ⟨rfl,HB5.out⟩
end Go.Proofs.YtjonaidancomgaaGreatDoor
