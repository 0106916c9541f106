/- Parts of the proof, joined into one text: SxEqf, SxCells, SxEqg, SxSme. -/
import Derived.Test.YtjonaidancomgaaGreatDoorPSxPrC0
import Derived.Test.YtjonaidancomgaaGreatDoorPSxSameC
import Derived.Test.YtjonaidancomgaaGreatDoorPLxE
import Derived.Deep.WholeRow
import Derived.Deep.Cut

namespace Go.Proofs.YtjonaidancomgaaGreatDoor
open Go.RowKit

set_option maxRecDepth 20000 in
set_option maxHeartbeats 4000000 in
theorem eqf_rule (A B:Option Addr) (c d:Nat) (l l':List Sx.Rule) (w:World) (hl:Row w (Old w) A 6 (RuleAt w (Old w)) l) (hl':Row w (Old w) B 6 (RuleAt w (Old w)) l')
  (HC:∀ x∈l,∀ y∈l',∀ ca cb W,Below w.heap.size w W→RuleAt W (Old W) x ca→RuleAt W (Old W) y cb→Calls Tryz.prog 62 #[.agg ca.toArray,.agg cb.toArray] W (BoolPost (decide (x=y)) W)) :
  Calls Tryz.prog 151 #[.slice A l.length c,.slice B l'.length d,.func (.func 62) #[] #[]] w (BoolPost (decide (l=l')) w):=by
 obtain ⟨m,hm⟩:∃ m,m=l.length:=⟨_,rfl⟩
 obtain ⟨m',hm'⟩:∃ m,m=l'.length:=⟨_,rfl⟩
 obtain ⟨R,hR⟩:∃ R,R=decide (l=l'):=⟨_,rfl⟩
 have z0:=hl.len;have z1:=hl'.len
 rw[←hm] at z0 ⊢
 rw[←hm'] at z1 ⊢
 rw[←hR]
 have Hl:=Lh hl;have Hl':=Lh hl';have Hm:=Lh hm;have Hm':=Lh hm';have HR:=Lh hR;have HC':=Lh HC
 clear hl hl' hm hm' hR HC
 cases q0:((m:Int) != (m':Int)) with
 | true=>
  have HR2:Hid (R=false):=Lh (by rw [HR.out];exact decide_eq_false fun e=>by rw [Hm.out,Hm'.out,e] at q0;simp at q0)
  go_enter Tryz.func151,Tryz.ntmps151
  go_wp2_with fail
  go_ret
  exact ⟨ret_bool HR2.out.symm,Below.refl _ _⟩
 | false=>
 obtain rfl:m=m':=by have:(m:Int)=m':=(by simpa using q0);omega
 go_enter Tryz.func151,Tryz.ntmps151
 go_wp2_with fail
 go_loopg [17] m (fun gk v17 wr=>∃ i:Nat,v17 = .int .i64 i∧i+gk=m∧Hid (Below w.heap.size w wr)∧Hid (∀ j x y,j < i→l[j]?=some x→l'[j]?=some y→x=y))
 case atStart=>exact ⟨0,rfl,by omega,Lh (Below.refl _ _),Lh (fun j x y hj=>absurd hj (Nat.not_lt_zero j))⟩
 case round=>
  obtain ⟨i,rfl,hi,Hb,Hag⟩:=hrel
  have hws:=Hb.out.size
  by_cases hlt:i < m
  ·obtain ⟨x,hx⟩:∃ x,l[i]?=some x:=⟨_,List.getElem?_eq_getElem (by have:=Hm.out;omega)⟩
   obtain ⟨y,hy⟩:∃ y,l'[i]?=some y:=⟨_,List.getElem?_eq_getElem (by have:=Hm'.out;omega)⟩
   have Hx:=Lh hx;have Hy:=Lh hy
   obtain ⟨bk,ok,cs,rfl,hS,hP,hck⟩:=Hl.out.at_ i x hx
   obtain ⟨bl,ol,cs',rfl,hS',hQ,hcl⟩:=Hl'.out.at_ i y hy
   have hcall:=HC'.out x (List.mem_of_getElem? hx) y (List.mem_of_getElem? hy) cs cs'
   have hP':=old_rule Hb.out hP
   have hQ':=old_rule Hb.out hQ
   have hbk:bk < wr.heap.size:=Nat.lt_of_lt_of_le hS hws
   have hbl:bl < wr.heap.size:=Nat.lt_of_lt_of_le hS' hws
   obtain ⟨i0,i1,s2,i3,i4,A5,n5,c5,rfl⟩:=form_rule hP
   obtain ⟨i0',i1',s2',i3',i4',A5',n5',c5',rfl⟩:=form_rule hQ
   have k0:=(Hb.out.cell (p:=⟨bk,_,none⟩) hS).trans (hck 0 _ rfl)
   have l0:=(Hb.out.cell (p:=⟨bl,_,none⟩) hS').trans (hcl 0 _ rfl)
   have k1:=(Hb.out.cell (p:=⟨bk,_,none⟩) hS).trans (hck 1 _ rfl)
   have l1:=(Hb.out.cell (p:=⟨bl,_,none⟩) hS').trans (hcl 1 _ rfl)
   have k2:=(Hb.out.cell (p:=⟨bk,_,none⟩) hS).trans (hck 2 _ rfl)
   have l2:=(Hb.out.cell (p:=⟨bl,_,none⟩) hS').trans (hcl 2 _ rfl)
   have k3:=(Hb.out.cell (p:=⟨bk,_,none⟩) hS).trans (hck 3 _ rfl)
   have l3:=(Hb.out.cell (p:=⟨bl,_,none⟩) hS').trans (hcl 3 _ rfl)
   have k4:=(Hb.out.cell (p:=⟨bk,_,none⟩) hS).trans (hck 4 _ rfl)
   have l4:=(Hb.out.cell (p:=⟨bl,_,none⟩) hS').trans (hcl 4 _ rfl)
   have k5:=(Hb.out.cell (p:=⟨bk,_,none⟩) hS).trans (hck 5 _ rfl)
   have l5:=(Hb.out.cell (p:=⟨bl,_,none⟩) hS').trans (hcl 5 _ rfl)
   simp only[Nat.add_zero] at k0 l0 k1 l1 k2 l2 k3 l3 k4 l4 k5 l5
   obtain ⟨W,hW⟩:∃ W,W=(wr.alloc (.cells #[.int .i64 i0,.int .i64 i1,.string s2,.int .i64 i3,.int .i64 i4,.slice A5 n5 c5] 38)).alloc (.cells #[.int .i64 i0',.int .i64 i1',.string s2',.int .i64 i3',.int .i64 i4',.slice A5' n5' c5'] 38):=⟨_,rfl⟩
   have hbw:Below wr.heap.size wr W:=by rw [hW];exact ((Below.refl _ _).alloc (Nat.le_refl _) _).alloc (by simp) _
   have hbW:=Hb.out.trans (hbw.mono hws)
   have Hcall:=Lh (hcall W hbW (old_rule hbw hP') (old_rule hbw hQ'))
   have HbW:=Lh hbW
   clear hcall hP hP' hQ hQ' hck hcl hx hy hbw hbW
   obtain ⟨b,hb⟩:∃ b,b=decide (x=y):=⟨_,rfl⟩
   rw[←hb] at Hcall
   have HB:=Lh hb
   clear hb
   go_wp2_with fail
   rw[←hW]
   refine Hcall.out.mono ?_
   rintro e w5 ⟨rfl,hb5⟩
   have Hb5:=Lh hb5
   clear hb5 hW k0 l0 k1 l1 k2 l2 k3 l3 k4 l4 k5 l5
   cases b with
   | false=>
    have HR2:Hid (R=false):=Lh (by
     rw[HR.out]
     exact decide_eq_false fun e=>(of_decide_eq_false HB.out.symm) (by have h1:=Hx.out;rw[e,Hy.out] at h1;injection h1 with h1;exact h1.symm))
    go_wp2_with fail
    go_ret
    exact ⟨ret_bool HR2.out.symm,HbW.out.trans (Hb5.out.mono HbW.out.size)⟩
   | true=>
    have Hq:=Lh (of_decide_eq_true HB.out.symm)
    go_wp2_with fail
    go_roundg (gk - 1)
    all_goals first
     | omega
     | exact ⟨i+1,by go_num,by omega,Lh (HbW.out.trans (Hb5.out.mono HbW.out.size)),Lh (fun j a b hj h1 h2=>by
       rcases Nat.lt_or_ge j i with h3 | h3
       ·exact Hag.out j a b h3 h1 h2
       ·obtain rfl:j=i:=by omega
        rw[Hx.out] at h1;rw[Hy.out] at h2
        injection h1 with h1;injection h2 with h2
        rw[←h1,←h2];exact Hq.out)⟩
  ·obtain rfl:i=m:=by omega
   have HR2:Hid (R=true):=Lh (by
    rw[HR.out]
    refine decide_eq_true (List.ext_getElem? fun j=>?_)
    rcases Nat.lt_or_ge j i with h3 | h3
    ·have h1:l[j]?=some (l[j]'(by have:=Hm.out;omega)):=List.getElem?_eq_getElem _
     have h2:l'[j]?=some (l'[j]'(by have:=Hm'.out;omega)):=List.getElem?_eq_getElem _
     rw[h1,h2,Hag.out j _ _ h3 h1 h2]
    ·rw[List.getElem?_eq_none (by have:=Hm.out;omega),List.getElem?_eq_none (by have:=Hm'.out;omega)])
   go_wp2_with fail
   go_ret
   exact ⟨ret_bool HR2.out.symm,Hb.out⟩
set_option maxRecDepth 20000 in
set_option maxHeartbeats 8000000 in
theorem sameRule0 (op co x d op' co' x' d':Int) (nm nm':List UInt8) (A A':Option Addr) (m c m' c':Nat) (b:Bool) (w:World) (hb:∀ W,Below w.heap.size w W→Calls Tryz.prog 151 #[.slice A m c,.slice A' m' c',.func (.func 62) #[] #[]] W (BoolPost b W)) :
  Calls Tryz.prog 62 #[.agg #[.int .i64 op,.int .i64 co,.string (Lx.bs nm),.int .i64 x,.int .i64 d,.slice A m c],.agg #[.int .i64 op',.int .i64 co',.string (Lx.bs nm'),.int .i64 x',.int .i64 d',.slice A' m' c']] w (BoolPost ((op == op') && (co == co') && (nm == nm') && (x == x') && (d == d') && b) w):=by
 obtain ⟨R,hR⟩:∃ R:Bool,R=((op == op') && (co == co') && (nm == nm') && (x == x') && (d == d') && b):=⟨_,rfl⟩
 rw[←hR]
 obtain ⟨W,hW⟩:∃ W,W=(w.alloc (.cells #[.int .i64 op,.int .i64 co,.string (Lx.bs nm),.int .i64 x,.int .i64 d,.slice A m c] 38)).alloc (.cells #[.int .i64 op',.int .i64 co',.string (Lx.bs nm'),.int .i64 x',.int .i64 d',.slice A' m' c'] 38):=⟨_,rfl⟩
 have hbW:Below w.heap.size w W:=by rw [hW];exact ((Below.refl _ _).alloc (Nat.le_refl _) _).alloc (by simp) _
 have e0:Blk W w.heap.size 38 #[.int .i64 op,.int .i64 co,.string (Lx.bs nm),.int .i64 x,.int .i64 d,.slice A m c]:=by rw [hW];exact (Blk.new w _ _).alloc _
 have f0:Blk W (w.heap.size+1) 38 #[.int .i64 op',.int .i64 co',.string (Lx.bs nm'),.int .i64 x',.int .i64 d',.slice A' m' c']:=by rw [hW];exact Blk.new_at _ _ (by simp)
 have HB0:=Lh hbW;have E0:=Lh e0;have F0:=Lh f0
 clear hbW e0 f0
 have hbs:((Lx.bs nm).toList == (Lx.bs nm').toList)=(nm == nm'):=by rw [ByteArray.toList_eq,ByteArray.toList_eq,Lx.bs_list,Lx.bs_list]
 have K5:=Lh (hb)
 cases q0:(op == op') with
 | false=>
  rw[q0] at hR
  have HR:Hid (R=false):=Lh (by rw [hR];simp)
  clear hR
  go_enter Tryz.func62,Tryz.ntmps62
  go_wp2_with fail
  go_ret
  exact ⟨ret_bool HR.out.symm,(by have h:=HB0.out;rw[hW] at h;exact h)⟩
 | true=>
 rw[q0] at hR
 cases q1:(co == co') with
 | false=>
  rw[q1] at hR
  have HR:Hid (R=false):=Lh (by rw [hR];simp)
  clear hR
  go_enter Tryz.func62,Tryz.ntmps62
  go_wp2_with fail
  go_ret
  exact ⟨ret_bool HR.out.symm,(by have h:=HB0.out;rw[hW] at h;exact h)⟩
 | true=>
 rw[q1] at hR
 cases q2:(nm == nm') with
 | false=>
  rw[q2] at hbs hR
  have HR:Hid (R=false):=Lh (by rw [hR];simp)
  clear hR
  go_enter Tryz.func62,Tryz.ntmps62
  go_wp2_with fail
  go_ret
  exact ⟨ret_bool HR.out.symm,(by have h:=HB0.out;rw[hW] at h;exact h)⟩
 | true=>
 rw[q2] at hbs hR
 cases q3:(x == x') with
 | false=>
  rw[q3] at hR
  have HR:Hid (R=false):=Lh (by rw [hR];simp)
  clear hR
  go_enter Tryz.func62,Tryz.ntmps62
  go_wp2_with fail
  go_ret
  exact ⟨ret_bool HR.out.symm,(by have h:=HB0.out;rw[hW] at h;exact h)⟩
 | true=>
 rw[q3] at hR
 cases q4:(d == d') with
 | false=>
  rw[q4] at hR
  have HR:Hid (R=false):=Lh (by rw [hR];simp)
  clear hR
  go_enter Tryz.func62,Tryz.ntmps62
  go_wp2_with fail
  go_ret
  exact ⟨ret_bool HR.out.symm,(by have h:=HB0.out;rw[hW] at h;exact h)⟩
 | true=>
 rw[q4] at hR
 have HR:Hid (R=(b)):=Lh (by rw [hR];simp)
 clear hR
 go_enter Tryz.func62,Tryz.ntmps62
 go_wp2_with fail
 rw[←hW]
 refine (K5.out _ HB0.out).mono ?_
 rintro e w1 ⟨rfl,hb⟩
 have HB1:=Lh (HB0.out.trans (hb.mono HB0.out.size))
 have y:=E0.out.below hb E0.out.lt;have y':=F0.out.below hb F0.out.lt
 have E1:=Lh y;have F1:=Lh y'
 have x0:=y.cell 0;have x1:=y.cell 1;have x2:=y.cell 2;have x3:=y.cell 3;have x4:=y.cell 4;have x5:=y.cell 5
 have r0:=y'.cell 0;have r1:=y'.cell 1;have r2:=y'.cell 2;have r3:=y'.cell 3;have r4:=y'.cell 4;have r5:=y'.cell 5
 simp at x0 r0 x1 r1 x2 r2 x3 r3 x4 r4 x5 r5
 have z1:=y'.lt
 clear hb y y'
 go_wp2_with fail
 go_ret
 exact ⟨ret_bool HR.out.symm,HB1.out⟩
theorem kids_row2 {w:World} {A:Option Addr} {ks:List Sx.Rule} (h:KidsAt w (Old w) A 0 ks) (hl:ks.length≤140737488351232):Row w (Old w) A 6 (RuleAt w (Old w)) ks:=⟨kids_row.1 h,hl⟩
theorem lSameRule:∀ (n:Nat) (a b:Sx.Rule),SizeOf.sizeOf a < n→∀ (w:World) (ca cb:List Value),RuleAt w (Old w) a ca→RuleAt w (Old w) b cb→
  Calls Tryz.prog 62 #[.agg ca.toArray,.agg cb.toArray] w (BoolPost (decide (a=b)) w)
 | 0,a,b,hn,w,ca,cb,ha,hb=>by omega
 | n+1,.mk op co nm x d ks,.mk op' co' nm' x' d' ks',hn,w,ca,cb,ha,hb=>by
  have ih:=lSameRule n
  rw[RuleAt] at ha hb
  obtain ⟨A,c,rfl,ha2,ha3,ha4⟩:=ha
  obtain ⟨B,c',rfl,hb2,hb3,hb4⟩:=hb
  have e:decide (Sx.Rule.mk op co nm x d ks = .mk op' co' nm' x' d' ks')=((op == op') && (co == co') && (nm == nm') && (x == x') && (d == d') && decide (ks=ks')):=by
   rw[Bool.eq_iff_iff];simp[and_assoc]
  rw[e]
  exact sameRule0 op co x d op' co' x' d' nm nm' A B _ c _ c' _ w fun W hW=>
   eqf_rule A B c c' ks ks' W ((kids_row2 ha4 ha3).keep (P':=RuleAt W (Old W)) (old_keep hW) fun _ _ _ h=>old_rule hW h) ((kids_row2 hb4 hb3).keep (P':=RuleAt W (Old W)) (old_keep hW) fun _ _ _ h=>old_rule hW h)
    (fun y hy z hz ca cb W' _ h1 h2=>ih y z (by obtain ⟨i,hi⟩:=List.mem_iff_getElem?.1 hy;have:=Sx.kid_size (op:=op) (co:=co) (nm:=nm) (n:=x) (d:=d) hi;omega) W' ca cb h1 h2)
theorem sSameRuleF (a b:Sx.Rule) (w:World) (ca cb:List Value) (ha:RuleAt w (Old w) a ca) (hb:RuleAt w (Old w) b cb):Calls Tryz.prog 62 #[.agg ca.toArray,.agg cb.toArray] w (BoolPost (decide (a=b)) w):=lSameRule _ a b (Nat.lt_succ_self _) w ca cb ha hb
set_option maxRecDepth 20000 in
set_option maxHeartbeats 8000000 in
theorem sameCourse0 (nm nm':List UInt8) (no cr rp no' cr' rp':Int) (a0 a1:Int) (a2:ByteArray) (a3 a4:Int) (aA:Option Addr) (an ac:Nat) (b0 b1:Int) (b2:ByteArray) (b3 b4:Int) (bA:Option Addr) (bn bc:Nat) (a0' a1':Int) (a2':ByteArray) (a3' a4':Int) (aA':Option Addr) (an' ac':Nat) (b0' b1':Int) (b2':ByteArray) (b3' b4':Int) (bA':Option Addr) (bn' bc':Nat) (p1 p2:Bool) (w:World) (h1:∀ W,Below w.heap.size w W→Calls Tryz.prog 62 #[.agg #[.int .i64 a0,.int .i64 a1,.string a2,.int .i64 a3,.int .i64 a4,.slice aA an ac],.agg #[.int .i64 a0',.int .i64 a1',.string a2',.int .i64 a3',.int .i64 a4',.slice aA' an' ac']] W (BoolPost p1 W)) (h2:∀ W,Below w.heap.size w W→Calls Tryz.prog 62 #[.agg #[.int .i64 b0,.int .i64 b1,.string b2,.int .i64 b3,.int .i64 b4,.slice bA bn bc],.agg #[.int .i64 b0',.int .i64 b1',.string b2',.int .i64 b3',.int .i64 b4',.slice bA' bn' bc']] W (BoolPost p2 W)) :
  Calls Tryz.prog 61 #[.agg #[.string (Lx.bs nm),.int .i64 no,.int .i64 cr,.int .i64 rp,.int .i64 a0,.int .i64 a1,.string a2,.int .i64 a3,.int .i64 a4,.slice aA an ac,.int .i64 b0,.int .i64 b1,.string b2,.int .i64 b3,.int .i64 b4,.slice bA bn bc],.agg #[.string (Lx.bs nm'),.int .i64 no',.int .i64 cr',.int .i64 rp',.int .i64 a0',.int .i64 a1',.string a2',.int .i64 a3',.int .i64 a4',.slice aA' an' ac',.int .i64 b0',.int .i64 b1',.string b2',.int .i64 b3',.int .i64 b4',.slice bA' bn' bc']] w (BoolPost ((nm == nm') && (no == no') && (cr == cr') && (rp == rp') && p1 && p2) w):=by
 obtain ⟨R,hR⟩:∃ R:Bool,R=((nm == nm') && (no == no') && (cr == cr') && (rp == rp') && p1 && p2):=⟨_,rfl⟩
 rw[←hR]
 obtain ⟨W,hW⟩:∃ W,W=(w.alloc (.cells #[.string (Lx.bs nm),.int .i64 no,.int .i64 cr,.int .i64 rp,.int .i64 a0,.int .i64 a1,.string a2,.int .i64 a3,.int .i64 a4,.slice aA an ac,.int .i64 b0,.int .i64 b1,.string b2,.int .i64 b3,.int .i64 b4,.slice bA bn bc] 58)).alloc (.cells #[.string (Lx.bs nm'),.int .i64 no',.int .i64 cr',.int .i64 rp',.int .i64 a0',.int .i64 a1',.string a2',.int .i64 a3',.int .i64 a4',.slice aA' an' ac',.int .i64 b0',.int .i64 b1',.string b2',.int .i64 b3',.int .i64 b4',.slice bA' bn' bc'] 58):=⟨_,rfl⟩
 have hbW:Below w.heap.size w W:=by rw [hW];exact ((Below.refl _ _).alloc (Nat.le_refl _) _).alloc (by simp) _
 have e0:Blk W w.heap.size 58 #[.string (Lx.bs nm),.int .i64 no,.int .i64 cr,.int .i64 rp,.int .i64 a0,.int .i64 a1,.string a2,.int .i64 a3,.int .i64 a4,.slice aA an ac,.int .i64 b0,.int .i64 b1,.string b2,.int .i64 b3,.int .i64 b4,.slice bA bn bc]:=by rw [hW];exact (Blk.new w _ _).alloc _
 have f0:Blk W (w.heap.size+1) 58 #[.string (Lx.bs nm'),.int .i64 no',.int .i64 cr',.int .i64 rp',.int .i64 a0',.int .i64 a1',.string a2',.int .i64 a3',.int .i64 a4',.slice aA' an' ac',.int .i64 b0',.int .i64 b1',.string b2',.int .i64 b3',.int .i64 b4',.slice bA' bn' bc']:=by rw [hW];exact Blk.new_at _ _ (by simp)
 have HB0:=Lh hbW;have E0:=Lh e0;have F0:=Lh f0
 clear hbW e0 f0
 have hbs:((Lx.bs nm).toList == (Lx.bs nm').toList)=(nm == nm'):=by rw [ByteArray.toList_eq,ByteArray.toList_eq,Lx.bs_list,Lx.bs_list]
 have K4:=Lh (h1)
 have K5:=Lh (h2)
 cases q0:(nm == nm') with
 | false=>
  rw[q0] at hbs hR
  have HR:Hid (R=false):=Lh (by rw [hR];simp)
  clear hR
  go_enter Tryz.func61,Tryz.ntmps61
  go_wp2_with fail
  go_ret
  exact ⟨ret_bool HR.out.symm,(by have h:=HB0.out;rw[hW] at h;exact h)⟩
 | true=>
 rw[q0] at hbs hR
 cases q1:(no == no') with
 | false=>
  rw[q1] at hR
  have HR:Hid (R=false):=Lh (by rw [hR];simp)
  clear hR
  go_enter Tryz.func61,Tryz.ntmps61
  go_wp2_with fail
  go_ret
  exact ⟨ret_bool HR.out.symm,(by have h:=HB0.out;rw[hW] at h;exact h)⟩
 | true=>
 rw[q1] at hR
 cases q2:(cr == cr') with
 | false=>
  rw[q2] at hR
  have HR:Hid (R=false):=Lh (by rw [hR];simp)
  clear hR
  go_enter Tryz.func61,Tryz.ntmps61
  go_wp2_with fail
  go_ret
  exact ⟨ret_bool HR.out.symm,(by have h:=HB0.out;rw[hW] at h;exact h)⟩
 | true=>
 rw[q2] at hR
 cases q3:(rp == rp') with
 | false=>
  rw[q3] at hR
  have HR:Hid (R=false):=Lh (by rw [hR];simp)
  clear hR
  go_enter Tryz.func61,Tryz.ntmps61
  go_wp2_with fail
  go_ret
  exact ⟨ret_bool HR.out.symm,(by have h:=HB0.out;rw[hW] at h;exact h)⟩
 | true=>
 rw[q3] at hR
 cases q4:p1 with
 | false=>
  rw[q4] at K4 hR
  have HR:Hid (R=false):=Lh (by rw [hR];simp)
  clear hR
  go_enter Tryz.func61,Tryz.ntmps61
  go_wp2_with fail
  rw[←hW]
  refine (K4.out _ HB0.out).mono ?_
  rintro e w1 ⟨rfl,hb⟩
  have HB1:=Lh (HB0.out.trans (hb.mono HB0.out.size))
  have y:=E0.out.below hb E0.out.lt;have y':=F0.out.below hb F0.out.lt
  have E1:=Lh y;have F1:=Lh y'
  have x0:=y.cell 0;have x1:=y.cell 1;have x2:=y.cell 2;have x3:=y.cell 3;have x4:=y.cell 4;have x5:=y.cell 5;have x6:=y.cell 6;have x7:=y.cell 7;have x8:=y.cell 8;have x9:=y.cell 9;have x10:=y.cell 10;have x11:=y.cell 11;have x12:=y.cell 12;have x13:=y.cell 13;have x14:=y.cell 14;have x15:=y.cell 15
  have r0:=y'.cell 0;have r1:=y'.cell 1;have r2:=y'.cell 2;have r3:=y'.cell 3;have r4:=y'.cell 4;have r5:=y'.cell 5;have r6:=y'.cell 6;have r7:=y'.cell 7;have r8:=y'.cell 8;have r9:=y'.cell 9;have r10:=y'.cell 10;have r11:=y'.cell 11;have r12:=y'.cell 12;have r13:=y'.cell 13;have r14:=y'.cell 14;have r15:=y'.cell 15
  simp at x0 r0 x1 r1 x2 r2 x3 r3 x4 r4 x5 r5 x6 r6 x7 r7 x8 r8 x9 r9 x10 r10 x11 r11 x12 r12 x13 r13 x14 r14 x15 r15
  have z1:=y'.lt
  clear hb y y'
  go_wp2_with fail
  go_ret
  exact ⟨ret_bool HR.out.symm,HB1.out⟩
 | true=>
 rw[q4] at K4 hR
 have HR:Hid (R=(p2)):=Lh (by rw [hR];simp)
 clear hR
 go_enter Tryz.func61,Tryz.ntmps61
 go_wp2_with fail
 rw[←hW]
 refine (K4.out _ HB0.out).mono ?_
 rintro e w1 ⟨rfl,hb⟩
 have HB1:=Lh (HB0.out.trans (hb.mono HB0.out.size))
 have y:=E0.out.below hb E0.out.lt;have y':=F0.out.below hb F0.out.lt
 have E1:=Lh y;have F1:=Lh y'
 have x0:=y.cell 0;have x1:=y.cell 1;have x2:=y.cell 2;have x3:=y.cell 3;have x4:=y.cell 4;have x5:=y.cell 5;have x6:=y.cell 6;have x7:=y.cell 7;have x8:=y.cell 8;have x9:=y.cell 9;have x10:=y.cell 10;have x11:=y.cell 11;have x12:=y.cell 12;have x13:=y.cell 13;have x14:=y.cell 14;have x15:=y.cell 15
 have r0:=y'.cell 0;have r1:=y'.cell 1;have r2:=y'.cell 2;have r3:=y'.cell 3;have r4:=y'.cell 4;have r5:=y'.cell 5;have r6:=y'.cell 6;have r7:=y'.cell 7;have r8:=y'.cell 8;have r9:=y'.cell 9;have r10:=y'.cell 10;have r11:=y'.cell 11;have r12:=y'.cell 12;have r13:=y'.cell 13;have r14:=y'.cell 14;have r15:=y'.cell 15
 simp at x0 r0 x1 r1 x2 r2 x3 r3 x4 r4 x5 r5 x6 r6 x7 r7 x8 r8 x9 r9 x10 r10 x11 r11 x12 r12 x13 r13 x14 r14 x15 r15
 have z1:=y'.lt
 clear hb y y'
 go_wp2_with fail
 refine (K5.out _ HB1.out).mono ?_
 rintro e w2 ⟨rfl,hb⟩
 have HB2:=Lh (HB1.out.trans (hb.mono HB1.out.size))
 have y:=E1.out.below hb E1.out.lt;have y':=F1.out.below hb F1.out.lt
 have E2:=Lh y;have F2:=Lh y'
 have x0:=y.cell 0;have x1:=y.cell 1;have x2:=y.cell 2;have x3:=y.cell 3;have x4:=y.cell 4;have x5:=y.cell 5;have x6:=y.cell 6;have x7:=y.cell 7;have x8:=y.cell 8;have x9:=y.cell 9;have x10:=y.cell 10;have x11:=y.cell 11;have x12:=y.cell 12;have x13:=y.cell 13;have x14:=y.cell 14;have x15:=y.cell 15
 have r0:=y'.cell 0;have r1:=y'.cell 1;have r2:=y'.cell 2;have r3:=y'.cell 3;have r4:=y'.cell 4;have r5:=y'.cell 5;have r6:=y'.cell 6;have r7:=y'.cell 7;have r8:=y'.cell 8;have r9:=y'.cell 9;have r10:=y'.cell 10;have r11:=y'.cell 11;have r12:=y'.cell 12;have r13:=y'.cell 13;have r14:=y'.cell 14;have r15:=y'.cell 15
 simp at x0 r0 x1 r1 x2 r2 x3 r3 x4 r4 x5 r5 x6 r6 x7 r7 x8 r8 x9 r9 x10 r10 x11 r11 x12 r12 x13 r13 x14 r14 x15 r15
 have z2:=y'.lt
 clear hb y y'
 go_wp2_with fail
 go_ret
 exact ⟨ret_bool HR.out.symm,HB2.out⟩
theorem lSameCourse (x y:Sx.Course) (w:World) (ca cb:List Value) (ha:CourseAt w (Old w) x ca) (hb:CourseAt w (Old w) y cb):Calls Tryz.prog 61 #[.agg ca.toArray,.agg cb.toArray] w (BoolPost (decide (x=y)) w):=by
 obtain ⟨cn,cb1,rfl,_,h1,h2⟩:=ha
 obtain ⟨cn',cb1',rfl,_,h1',h2'⟩:=hb
 have k1:=fun W (hW:Below w.heap.size w W)=>sSameRuleF x.need y.need W cn cn' (old_rule hW h1) (old_rule hW h1')
 have k2:=fun W (hW:Below w.heap.size w W)=>sSameRuleF x.bar y.bar W cb1 cb1' (old_rule hW h2) (old_rule hW h2')
 obtain ⟨i0,i1,s2,i3,i4,A5,n5,c5,rfl⟩:=form_rule h1
 obtain ⟨j0,j1,t2,j3,j4,B5,m5,d5,rfl⟩:=form_rule h2
 obtain ⟨i0',i1',s2',i3',i4',A5',n5',c5',rfl⟩:=form_rule h1'
 obtain ⟨j0',j1',t2',j3',j4',B5',m5',d5',rfl⟩:=form_rule h2'
 have e:decide (x=y)=((x.name == y.name) && (x.number == y.number) && (x.credits == y.credits) && (x.rep == y.rep) && decide (x.need=y.need) && decide (x.bar=y.bar)):=by
  cases x;cases y;rw[Bool.eq_iff_iff];simp[and_assoc]
 rw[e]
 exact sameCourse0 x.name y.name x.number x.credits x.rep y.number y.credits y.rep i0 i1 s2 i3 i4 A5 n5 c5 j0 j1 t2 j3 j4 B5 m5 d5 i0' i1' s2' i3' i4' A5' n5' c5' j0' j1' t2' j3' j4' B5' m5' d5' _ _ w k1 k2
end Go.Proofs.YtjonaidancomgaaGreatDoor

namespace Go.Proofs.YtjonaidancomgaaGreatDoor
open Go.RowKit

end Go.Proofs.YtjonaidancomgaaGreatDoor

namespace Go.Proofs.YtjonaidancomgaaGreatDoor
open Go.RowKit

set_option maxRecDepth 20000 in
set_option maxHeartbeats 4000000 in
theorem eqf_course (A B:Option Addr) (c d:Nat) (l l':List Sx.Course) (w:World) (hl:Row w (Old w) A 16 (CourseAt w (Old w)) l) (hl':Row w (Old w) B 16 (CourseAt w (Old w)) l')
  (HC:∀ x∈l,∀ y∈l',∀ ca cb W,Below w.heap.size w W→CourseAt W (Old W) x ca→CourseAt W (Old W) y cb→Calls Tryz.prog 61 #[.agg ca.toArray,.agg cb.toArray] W (BoolPost (decide (x=y)) W)) :
  Calls Tryz.prog 68 #[.slice A l.length c,.slice B l'.length d,.func (.func 61) #[] #[]] w (BoolPost (decide (l=l')) w):=by
 obtain ⟨m,hm⟩:∃ m,m=l.length:=⟨_,rfl⟩
 obtain ⟨m',hm'⟩:∃ m,m=l'.length:=⟨_,rfl⟩
 obtain ⟨R,hR⟩:∃ R,R=decide (l=l'):=⟨_,rfl⟩
 have z0:=hl.len;have z1:=hl'.len
 rw[←hm] at z0 ⊢
 rw[←hm'] at z1 ⊢
 rw[←hR]
 have Hl:=Lh hl;have Hl':=Lh hl';have Hm:=Lh hm;have Hm':=Lh hm';have HR:=Lh hR;have HC':=Lh HC
 clear hl hl' hm hm' hR HC
 cases q0:((m:Int) != (m':Int)) with
 | true=>
  have HR2:Hid (R=false):=Lh (by rw [HR.out];exact decide_eq_false fun e=>by rw [Hm.out,Hm'.out,e] at q0;simp at q0)
  go_enter Tryz.func68,Tryz.ntmps68
  go_wp2_with fail
  go_ret
  exact ⟨ret_bool HR2.out.symm,Below.refl _ _⟩
 | false=>
 obtain rfl:m=m':=by have:(m:Int)=m':=(by simpa using q0);omega
 go_enter Tryz.func68,Tryz.ntmps68
 go_wp2_with fail
 go_loopg [17] m (fun gk v17 wr=>∃ i:Nat,v17 = .int .i64 i∧i+gk=m∧Hid (Below w.heap.size w wr)∧Hid (∀ j x y,j < i→l[j]?=some x→l'[j]?=some y→x=y))
 case atStart=>exact ⟨0,rfl,by omega,Lh (Below.refl _ _),Lh (fun j x y hj=>absurd hj (Nat.not_lt_zero j))⟩
 case round=>
  obtain ⟨i,rfl,hi,Hb,Hag⟩:=hrel
  have hws:=Hb.out.size
  by_cases hlt:i < m
  ·obtain ⟨x,hx⟩:∃ x,l[i]?=some x:=⟨_,List.getElem?_eq_getElem (by have:=Hm.out;omega)⟩
   obtain ⟨y,hy⟩:∃ y,l'[i]?=some y:=⟨_,List.getElem?_eq_getElem (by have:=Hm'.out;omega)⟩
   have Hx:=Lh hx;have Hy:=Lh hy
   obtain ⟨bk,ok,cs,rfl,hS,hP,hck⟩:=Hl.out.at_ i x hx
   obtain ⟨bl,ol,cs',rfl,hS',hQ,hcl⟩:=Hl'.out.at_ i y hy
   have hcall:=HC'.out x (List.mem_of_getElem? hx) y (List.mem_of_getElem? hy) cs cs'
   have hP':=old_course Hb.out hP
   have hQ':=old_course Hb.out hQ
   have hbk:bk < wr.heap.size:=Nat.lt_of_lt_of_le hS hws
   have hbl:bl < wr.heap.size:=Nat.lt_of_lt_of_le hS' hws
   obtain ⟨s0,i1,i2,i3,i4,i5,s6,i7,i8,A9,n9,c9,i10,i11,s12,i13,i14,A15,n15,c15,rfl⟩:=form_course hP
   obtain ⟨s0',i1',i2',i3',i4',i5',s6',i7',i8',A9',n9',c9',i10',i11',s12',i13',i14',A15',n15',c15',rfl⟩:=form_course hQ
   have k0:=(Hb.out.cell (p:=⟨bk,_,none⟩) hS).trans (hck 0 _ rfl)
   have l0:=(Hb.out.cell (p:=⟨bl,_,none⟩) hS').trans (hcl 0 _ rfl)
   have k1:=(Hb.out.cell (p:=⟨bk,_,none⟩) hS).trans (hck 1 _ rfl)
   have l1:=(Hb.out.cell (p:=⟨bl,_,none⟩) hS').trans (hcl 1 _ rfl)
   have k2:=(Hb.out.cell (p:=⟨bk,_,none⟩) hS).trans (hck 2 _ rfl)
   have l2:=(Hb.out.cell (p:=⟨bl,_,none⟩) hS').trans (hcl 2 _ rfl)
   have k3:=(Hb.out.cell (p:=⟨bk,_,none⟩) hS).trans (hck 3 _ rfl)
   have l3:=(Hb.out.cell (p:=⟨bl,_,none⟩) hS').trans (hcl 3 _ rfl)
   have k4:=(Hb.out.cell (p:=⟨bk,_,none⟩) hS).trans (hck 4 _ rfl)
   have l4:=(Hb.out.cell (p:=⟨bl,_,none⟩) hS').trans (hcl 4 _ rfl)
   have k5:=(Hb.out.cell (p:=⟨bk,_,none⟩) hS).trans (hck 5 _ rfl)
   have l5:=(Hb.out.cell (p:=⟨bl,_,none⟩) hS').trans (hcl 5 _ rfl)
   have k6:=(Hb.out.cell (p:=⟨bk,_,none⟩) hS).trans (hck 6 _ rfl)
   have l6:=(Hb.out.cell (p:=⟨bl,_,none⟩) hS').trans (hcl 6 _ rfl)
   have k7:=(Hb.out.cell (p:=⟨bk,_,none⟩) hS).trans (hck 7 _ rfl)
   have l7:=(Hb.out.cell (p:=⟨bl,_,none⟩) hS').trans (hcl 7 _ rfl)
   have k8:=(Hb.out.cell (p:=⟨bk,_,none⟩) hS).trans (hck 8 _ rfl)
   have l8:=(Hb.out.cell (p:=⟨bl,_,none⟩) hS').trans (hcl 8 _ rfl)
   have k9:=(Hb.out.cell (p:=⟨bk,_,none⟩) hS).trans (hck 9 _ rfl)
   have l9:=(Hb.out.cell (p:=⟨bl,_,none⟩) hS').trans (hcl 9 _ rfl)
   have k10:=(Hb.out.cell (p:=⟨bk,_,none⟩) hS).trans (hck 10 _ rfl)
   have l10:=(Hb.out.cell (p:=⟨bl,_,none⟩) hS').trans (hcl 10 _ rfl)
   have k11:=(Hb.out.cell (p:=⟨bk,_,none⟩) hS).trans (hck 11 _ rfl)
   have l11:=(Hb.out.cell (p:=⟨bl,_,none⟩) hS').trans (hcl 11 _ rfl)
   have k12:=(Hb.out.cell (p:=⟨bk,_,none⟩) hS).trans (hck 12 _ rfl)
   have l12:=(Hb.out.cell (p:=⟨bl,_,none⟩) hS').trans (hcl 12 _ rfl)
   have k13:=(Hb.out.cell (p:=⟨bk,_,none⟩) hS).trans (hck 13 _ rfl)
   have l13:=(Hb.out.cell (p:=⟨bl,_,none⟩) hS').trans (hcl 13 _ rfl)
   have k14:=(Hb.out.cell (p:=⟨bk,_,none⟩) hS).trans (hck 14 _ rfl)
   have l14:=(Hb.out.cell (p:=⟨bl,_,none⟩) hS').trans (hcl 14 _ rfl)
   have k15:=(Hb.out.cell (p:=⟨bk,_,none⟩) hS).trans (hck 15 _ rfl)
   have l15:=(Hb.out.cell (p:=⟨bl,_,none⟩) hS').trans (hcl 15 _ rfl)
   simp only[Nat.add_zero] at k0 l0 k1 l1 k2 l2 k3 l3 k4 l4 k5 l5 k6 l6 k7 l7 k8 l8 k9 l9 k10 l10 k11 l11 k12 l12 k13 l13 k14 l14 k15 l15
   obtain ⟨W1,hW1⟩:∃ W,W=wr.alloc (.cells #[.string s0,.int .i64 i1,.int .i64 i2,.int .i64 i3,.int .i64 i4,.int .i64 i5,.string s6,.int .i64 i7,.int .i64 i8,.slice A9 n9 c9,.int .i64 i10,.int .i64 i11,.string s12,.int .i64 i13,.int .i64 i14,.slice A15 n15 c15] 58):=⟨_,rfl⟩
   obtain ⟨W,hW⟩:∃ W,W=W1.alloc (.cells #[.string s0',.int .i64 i1',.int .i64 i2',.int .i64 i3',.int .i64 i4',.int .i64 i5',.string s6',.int .i64 i7',.int .i64 i8',.slice A9' n9' c9',.int .i64 i10',.int .i64 i11',.string s12',.int .i64 i13',.int .i64 i14',.slice A15' n15' c15'] 58):=⟨_,rfl⟩
   have hs1:W1.heap.size=wr.heap.size+1:=by rw [hW1];simp
   have hb1:Below wr.heap.size wr W1:=by rw [hW1];exact (Below.refl _ _).alloc (Nat.le_refl _) _
   have hbw:Below wr.heap.size wr W:=by rw [hW];exact hb1.alloc (by omega) _
   have e1:Blk W wr.heap.size 58 #[.string s0,.int .i64 i1,.int .i64 i2,.int .i64 i3,.int .i64 i4,.int .i64 i5,.string s6,.int .i64 i7,.int .i64 i8,.slice A9 n9 c9,.int .i64 i10,.int .i64 i11,.string s12,.int .i64 i13,.int .i64 i14,.slice A15 n15 c15]:=by rw [hW,hW1];exact (Blk.new wr _ _).alloc _
   have e2:Blk W (wr.heap.size+1) 58 #[.string s0',.int .i64 i1',.int .i64 i2',.int .i64 i3',.int .i64 i4',.int .i64 i5',.string s6',.int .i64 i7',.int .i64 i8',.slice A9' n9' c9',.int .i64 i10',.int .i64 i11',.string s12',.int .i64 i13',.int .i64 i14',.slice A15' n15' c15']:=by rw [hW];exact Blk.new_at _ _ hs1
   have m0:=(hb1.cell (p:=⟨bl,_,none⟩) hbl).trans l0
   have m1:=(hb1.cell (p:=⟨bl,_,none⟩) hbl).trans l1
   have m2:=(hb1.cell (p:=⟨bl,_,none⟩) hbl).trans l2
   have m3:=(hb1.cell (p:=⟨bl,_,none⟩) hbl).trans l3
   have m4:=(hb1.cell (p:=⟨bl,_,none⟩) hbl).trans l4
   have m5:=(hb1.cell (p:=⟨bl,_,none⟩) hbl).trans l5
   have m6:=(hb1.cell (p:=⟨bl,_,none⟩) hbl).trans l6
   have m7:=(hb1.cell (p:=⟨bl,_,none⟩) hbl).trans l7
   have m8:=(hb1.cell (p:=⟨bl,_,none⟩) hbl).trans l8
   have m9:=(hb1.cell (p:=⟨bl,_,none⟩) hbl).trans l9
   have m10:=(hb1.cell (p:=⟨bl,_,none⟩) hbl).trans l10
   have m11:=(hb1.cell (p:=⟨bl,_,none⟩) hbl).trans l11
   have m12:=(hb1.cell (p:=⟨bl,_,none⟩) hbl).trans l12
   have m13:=(hb1.cell (p:=⟨bl,_,none⟩) hbl).trans l13
   have m14:=(hb1.cell (p:=⟨bl,_,none⟩) hbl).trans l14
   have m15:=(hb1.cell (p:=⟨bl,_,none⟩) hbl).trans l15
   have hbl1:bl < W1.heap.size:=by omega
   have hbW:=Hb.out.trans (hbw.mono hws)
   have Hcall:=Lh (hcall W hbW (old_course hbw hP') (old_course hbw hQ'))
   have HbW:=Lh hbW
   have E1:=Lh e1;have E2:=Lh e2
   have hs2:W.heap.size=wr.heap.size+2:=by rw [hW];simp;omega
   have Hi:=Lh hi
   clear hcall hP hP' hQ hQ' hck hcl hx hy hbw hbW hb1 e1 e2 l0 l1 l2 l3 l4 l5 l6 l7 l8 l9 l10 l11 l12 l13 l14 l15
   obtain ⟨b,hb⟩:∃ b,b=decide (x=y):=⟨_,rfl⟩
   rw[←hb] at Hcall
   have HB:=Lh hb
   clear hb
   go_upto_region 6 with fail
   rw[←hW1]
   as_aux_lemma=>
   clear k0 k1 k2 k3 k4 k5 k6 k7 k8 k9 k10 k11 k12 k13 k14 k15 hW1
   go_upto_region 7 with fail
   rw[←hW]
   as_aux_lemma=>
   clear m0 m1 m2 m3 m4 m5 m6 m7 m8 m9 m10 m11 m12 m13 m14 m15 hW
   have x0:=E1.out.cell 0;have x1:=E1.out.cell 1;have x2:=E1.out.cell 2;have x3:=E1.out.cell 3;have x4:=E1.out.cell 4;have x5:=E1.out.cell 5;have x6:=E1.out.cell 6;have x7:=E1.out.cell 7;have x8:=E1.out.cell 8;have x9:=E1.out.cell 9;have x10:=E1.out.cell 10;have x11:=E1.out.cell 11;have x12:=E1.out.cell 12;have x13:=E1.out.cell 13;have x14:=E1.out.cell 14;have x15:=E1.out.cell 15
   have y0:=E2.out.cell 0;have y1:=E2.out.cell 1;have y2:=E2.out.cell 2;have y3:=E2.out.cell 3;have y4:=E2.out.cell 4;have y5:=E2.out.cell 5;have y6:=E2.out.cell 6;have y7:=E2.out.cell 7;have y8:=E2.out.cell 8;have y9:=E2.out.cell 9;have y10:=E2.out.cell 10;have y11:=E2.out.cell 11;have y12:=E2.out.cell 12;have y13:=E2.out.cell 13;have y14:=E2.out.cell 14;have y15:=E2.out.cell 15
   simp at x0 x1 x2 x3 x4 x5 x6 x7 x8 x9 x10 x11 x12 x13 x14 x15 y0 y1 y2 y3 y4 y5 y6 y7 y8 y9 y10 y11 y12 y13 y14 y15
   have hlw:wr.heap.size+1 < W.heap.size:=E2.out.lt
   go_wp2_with fail
   refine Hcall.out.mono ?_
   rintro e w5 ⟨rfl,hb5⟩
   have Hb5:=Lh hb5
   clear hb5 x0 x1 x2 x3 x4 x5 x6 x7 x8 x9 x10 x11 x12 x13 x14 x15 y0 y1 y2 y3 y4 y5 y6 y7 y8 y9 y10 y11 y12 y13 y14 y15
   cases b with
   | false=>
    have HR2:Hid (R=false):=Lh (by
     rw[HR.out]
     exact decide_eq_false fun e=>(of_decide_eq_false HB.out.symm) (by have h1:=Hx.out;rw[e,Hy.out] at h1;injection h1 with h1;exact h1.symm))
    go_wp2_with fail
    go_ret
    exact ⟨ret_bool HR2.out.symm,HbW.out.trans (Hb5.out.mono HbW.out.size)⟩
   | true=>
    have Hq:=Lh (of_decide_eq_true HB.out.symm)
    go_wp2_with fail
    go_roundg (gk - 1)
    all_goals first
     | omega
     | exact ⟨i+1,by go_num,by omega,Lh (HbW.out.trans (Hb5.out.mono HbW.out.size)),Lh (fun j a b hj h1 h2=>by
       rcases Nat.lt_or_ge j i with h3 | h3
       ·exact Hag.out j a b h3 h1 h2
       ·obtain rfl:j=i:=by omega
        rw[Hx.out] at h1;rw[Hy.out] at h2
        injection h1 with h1;injection h2 with h2
        rw[←h1,←h2];exact Hq.out)⟩
  ·obtain rfl:i=m:=by omega
   have HR2:Hid (R=true):=Lh (by
    rw[HR.out]
    refine decide_eq_true (List.ext_getElem? fun j=>?_)
    rcases Nat.lt_or_ge j i with h3 | h3
    ·have h1:l[j]?=some (l[j]'(by have:=Hm.out;omega)):=List.getElem?_eq_getElem _
     have h2:l'[j]?=some (l'[j]'(by have:=Hm'.out;omega)):=List.getElem?_eq_getElem _
     rw[h1,h2,Hag.out j _ _ h3 h1 h2]
    ·rw[List.getElem?_eq_none (by have:=Hm.out;omega),List.getElem?_eq_none (by have:=Hm'.out;omega)])
   go_wp2_with fail
   go_ret
   exact ⟨ret_bool HR2.out.symm,Hb.out⟩
theorem eq0_pair (A B:Option Addr) (c d:Nat) (w:World):Calls Tryz.prog 69 #[.slice A 0 c,.slice B 0 d] w (BoolPost true w):=by
 go_enter Tryz.func69,Tryz.ntmps69
 go_wp2_with fail
 go_loopg [13] 0 (fun _ v wr=>v = .int .i64 0∧wr=w)
 case atStart=>exact ⟨rfl,rfl⟩
 case round=>
  obtain ⟨rfl,rfl⟩:=hrel
  go_wp2_with fail
  go_ret
  exact ⟨ret_bool rfl,Below.refl _ _⟩
theorem eq0_cls (A B:Option Addr) (c d:Nat) (w:World):Calls Tryz.prog 71 #[.slice A 0 c,.slice B 0 d] w (BoolPost true w):=by
 go_enter Tryz.func71,Tryz.ntmps71
 go_wp2_with fail
 go_loopg [13] 0 (fun _ v wr=>v = .int .i64 0∧wr=w)
 case atStart=>exact ⟨rfl,rfl⟩
 case round=>
  obtain ⟨rfl,rfl⟩:=hrel
  go_wp2_with fail
  go_ret
  exact ⟨ret_bool rfl,Below.refl _ _⟩
theorem eq0_fee (A B:Option Addr) (c d:Nat) (w:World):Calls Tryz.prog 72 #[.slice A 0 c,.slice B 0 d] w (BoolPost true w):=by
 go_enter Tryz.func72,Tryz.ntmps72
 go_wp2_with fail
 go_loopg [13] 0 (fun _ v wr=>v = .int .i64 0∧wr=w)
 case atStart=>exact ⟨rfl,rfl⟩
 case round=>
  obtain ⟨rfl,rfl⟩:=hrel
  go_wp2_with fail
  go_ret
  exact ⟨ret_bool rfl,Below.refl _ _⟩
theorem eq0_clause (A B:Option Addr) (c d:Nat) (w:World):Calls Tryz.prog 73 #[.slice A 0 c,.slice B 0 d] w (BoolPost true w):=by
 go_enter Tryz.func73,Tryz.ntmps73
 go_wp2_with fail
 go_loopg [13] 0 (fun _ v wr=>v = .int .i64 0∧wr=w)
 case atStart=>exact ⟨rfl,rfl⟩
 case round=>
  obtain ⟨rfl,rfl⟩:=hrel
  go_wp2_with fail
  go_ret
  exact ⟨ret_bool rfl,Below.refl _ _⟩
theorem eq0_prog (A B:Option Addr) (c d:Nat) (v:Value) (w:World):Calls Tryz.prog 70 #[.slice A 0 c,.slice B 0 d,v] w (BoolPost true w):=by
 go_enter Tryz.func70,Tryz.ntmps70
 go_wp2_with fail
 go_loopg [17] 0 (fun _ v wr=>v = .int .i64 0∧wr=w)
 case atStart=>exact ⟨rfl,rfl⟩
 case round=>
  obtain ⟨rfl,rfl⟩:=hrel
  go_wp2_with fail
  go_ret
  exact ⟨ret_bool rfl,Below.refl _ _⟩
end Go.Proofs.YtjonaidancomgaaGreatDoor

namespace Go.Proofs.YtjonaidancomgaaGreatDoor
open Go.RowKit

set_option maxRecDepth 20000 in
set_option maxHeartbeats 4000000 in
theorem sSameC (xs ys:List Sx.Course) (A:Option Addr) (n c:Nat) (A1:Option Addr) (c1:Nat) (A2:Option Addr) (c2:Nat) (A3:Option Addr) (c3:Nat) (A4:Option Addr) (c4:Nat) (A5:Option Addr) (c5:Nat) (A6:Option Addr) (c6:Nat) (A':Option Addr) (n' c':Nat) (A1':Option Addr) (c1':Nat) (A2':Option Addr) (c2':Nat) (A3':Option Addr) (c3':Nat) (A4':Option Addr) (c4':Nat) (A5':Option Addr) (c5':Nat) (A6':Option Addr) (c6':Nat) (hn:n=xs.length) (hn':n'=ys.length) (w:World) (hr:Row w (Old w) A 16 (CourseAt w (Old w)) xs) (hr':Row w (Old w) A' 16 (CourseAt w (Old w)) ys) :
  Calls Tryz.prog 24 #[.agg #[.slice A n c,.slice A1 0 c1,.slice A2 0 c2,.slice A3 0 c3,.slice A4 0 c4,.slice A5 0 c5,.slice A6 0 c6],.agg #[.slice A' n' c',.slice A1' 0 c1',.slice A2' 0 c2',.slice A3' 0 c3',.slice A4' 0 c4',.slice A5' 0 c5',.slice A6' 0 c6']] w (BoolPost (decide (xs=ys)) w):=by
 obtain ⟨R,hR⟩:∃ R:Bool,R=decide (xs=ys):=⟨_,rfl⟩
 rw[←hR]
 obtain ⟨W,hW⟩:∃ W,W=((w.alloc (.cells #[.slice A n c,.slice A1 0 c1,.slice A2 0 c2,.slice A3 0 c3,.slice A4 0 c4,.slice A5 0 c5,.slice A6 0 c6] 30)).alloc (.cells #[.slice A' n' c',.slice A1' 0 c1',.slice A2' 0 c2',.slice A3' 0 c3',.slice A4' 0 c4',.slice A5' 0 c5',.slice A6' 0 c6'] 30)).alloc (.cells #[.func (.func 63) #[] #[]] 123):=⟨_,rfl⟩
 have hbW:Below w.heap.size w W:=by rw [hW];exact (((Below.refl _ _).alloc (Nat.le_refl _) _).alloc (by simp) _).alloc (by simp;omega) _
 have e0:Blk W w.heap.size 30 #[.slice A n c,.slice A1 0 c1,.slice A2 0 c2,.slice A3 0 c3,.slice A4 0 c4,.slice A5 0 c5,.slice A6 0 c6]:=by rw [hW];exact ((Blk.new w _ _).alloc _).alloc _
 have f0:Blk W (w.heap.size+1) 30 #[.slice A' n' c',.slice A1' 0 c1',.slice A2' 0 c2',.slice A3' 0 c3',.slice A4' 0 c4',.slice A5' 0 c5',.slice A6' 0 c6']:=by rw [hW];exact (Blk.new_at _ _ (by simp)).alloc _
 have K0:=Lh (eqf_course A A' c c' xs ys W (hr.keep (P':=CourseAt W (Old W)) (old_keep hbW) fun _ _ _ h=>old_course hbW h) (hr'.keep (P':=CourseAt W (Old W)) (old_keep hbW) fun _ _ _ h=>old_course hbW h) (fun x _ y _ ca cb W' _ h1 h2=>lSameCourse x y W' ca cb h1 h2))
 rw[←hR,←hn,←hn'] at K0
 have HB0:=Lh hbW;have E0:=Lh e0;have F0:=Lh f0
 clear hbW e0 f0 hr hr' hn hn' hR
 go_enter Tryz.func24,Tryz.ntmps24
 go_wp2_with fail
 rw[←hW]
 refine K0.out.mono ?_
 rintro e w1 ⟨rfl,hb⟩
 have HB1:=Lh (HB0.out.trans (hb.mono HB0.out.size))
 have y:=E0.out.below hb E0.out.lt;have y':=F0.out.below hb F0.out.lt
 have E1:=Lh y;have F1:=Lh y'
 have x0:=y.cell 0;have x1:=y.cell 1;have x2:=y.cell 2;have x3:=y.cell 3;have x4:=y.cell 4;have x5:=y.cell 5;have x6:=y.cell 6
 have r0:=y'.cell 0;have r1:=y'.cell 1;have r2:=y'.cell 2;have r3:=y'.cell 3;have r4:=y'.cell 4;have r5:=y'.cell 5;have r6:=y'.cell 6
 simp at x0 r0 x1 r1 x2 r2 x3 r3 x4 r4 x5 r5 x6 r6
 have z1:=y'.lt
 clear hb y y'
 cases R with
 | false=>
  go_wp2_with fail
  go_ret
  exact ⟨ret_bool rfl,HB1.out⟩
 | true=>
 go_wp2_with fail
 refine (eq0_pair A1 A1' c1 c1' w1).mono ?_
 rintro e w2 ⟨rfl,hb⟩
 have HB2:=Lh (HB1.out.trans (hb.mono HB1.out.size))
 have y:=E1.out.below hb E1.out.lt;have y':=F1.out.below hb F1.out.lt
 have E2:=Lh y;have F2:=Lh y'
 have x0:=y.cell 0;have x1:=y.cell 1;have x2:=y.cell 2;have x3:=y.cell 3;have x4:=y.cell 4;have x5:=y.cell 5;have x6:=y.cell 6
 have r0:=y'.cell 0;have r1:=y'.cell 1;have r2:=y'.cell 2;have r3:=y'.cell 3;have r4:=y'.cell 4;have r5:=y'.cell 5;have r6:=y'.cell 6
 simp at x0 r0 x1 r1 x2 r2 x3 r3 x4 r4 x5 r5 x6 r6
 have z2:=y'.lt
 clear hb y y'
 go_wp2_with fail
 refine (eq0_prog A2 A2' c2 c2' _ w2).mono ?_
 rintro e w3 ⟨rfl,hb⟩
 have HB3:=Lh (HB2.out.trans (hb.mono HB2.out.size))
 have y:=E2.out.below hb E2.out.lt;have y':=F2.out.below hb F2.out.lt
 have E3:=Lh y;have F3:=Lh y'
 have x0:=y.cell 0;have x1:=y.cell 1;have x2:=y.cell 2;have x3:=y.cell 3;have x4:=y.cell 4;have x5:=y.cell 5;have x6:=y.cell 6
 have r0:=y'.cell 0;have r1:=y'.cell 1;have r2:=y'.cell 2;have r3:=y'.cell 3;have r4:=y'.cell 4;have r5:=y'.cell 5;have r6:=y'.cell 6
 simp at x0 r0 x1 r1 x2 r2 x3 r3 x4 r4 x5 r5 x6 r6
 have z3:=y'.lt
 clear hb y y'
 go_wp2_with fail
 refine (eq0_cls A3 A3' c3 c3' w3).mono ?_
 rintro e w4 ⟨rfl,hb⟩
 have HB4:=Lh (HB3.out.trans (hb.mono HB3.out.size))
 have y:=E3.out.below hb E3.out.lt;have y':=F3.out.below hb F3.out.lt
 have E4:=Lh y;have F4:=Lh y'
 have x0:=y.cell 0;have x1:=y.cell 1;have x2:=y.cell 2;have x3:=y.cell 3;have x4:=y.cell 4;have x5:=y.cell 5;have x6:=y.cell 6
 have r0:=y'.cell 0;have r1:=y'.cell 1;have r2:=y'.cell 2;have r3:=y'.cell 3;have r4:=y'.cell 4;have r5:=y'.cell 5;have r6:=y'.cell 6
 simp at x0 r0 x1 r1 x2 r2 x3 r3 x4 r4 x5 r5 x6 r6
 have z4:=y'.lt
 clear hb y y'
 go_wp2_with fail
 refine (eq0_fee A4 A4' c4 c4' w4).mono ?_
 rintro e w5 ⟨rfl,hb⟩
 have HB5:=Lh (HB4.out.trans (hb.mono HB4.out.size))
 have y:=E4.out.below hb E4.out.lt;have y':=F4.out.below hb F4.out.lt
 have E5:=Lh y;have F5:=Lh y'
 have x0:=y.cell 0;have x1:=y.cell 1;have x2:=y.cell 2;have x3:=y.cell 3;have x4:=y.cell 4;have x5:=y.cell 5;have x6:=y.cell 6
 have r0:=y'.cell 0;have r1:=y'.cell 1;have r2:=y'.cell 2;have r3:=y'.cell 3;have r4:=y'.cell 4;have r5:=y'.cell 5;have r6:=y'.cell 6
 simp at x0 r0 x1 r1 x2 r2 x3 r3 x4 r4 x5 r5 x6 r6
 have z5:=y'.lt
 clear hb y y'
 go_wp2_with fail
 refine (eq0_cls A5 A5' c5 c5' w5).mono ?_
 rintro e w6 ⟨rfl,hb⟩
 have HB6:=Lh (HB5.out.trans (hb.mono HB5.out.size))
 have y:=E5.out.below hb E5.out.lt;have y':=F5.out.below hb F5.out.lt
 have E6:=Lh y;have F6:=Lh y'
 have x0:=y.cell 0;have x1:=y.cell 1;have x2:=y.cell 2;have x3:=y.cell 3;have x4:=y.cell 4;have x5:=y.cell 5;have x6:=y.cell 6
 have r0:=y'.cell 0;have r1:=y'.cell 1;have r2:=y'.cell 2;have r3:=y'.cell 3;have r4:=y'.cell 4;have r5:=y'.cell 5;have r6:=y'.cell 6
 simp at x0 r0 x1 r1 x2 r2 x3 r3 x4 r4 x5 r5 x6 r6
 have z6:=y'.lt
 clear hb y y'
 go_wp2_with fail
 refine (eq0_clause A6 A6' c6 c6' w6).mono ?_
 rintro e w7 ⟨rfl,hb⟩
 have HB7:=Lh (HB6.out.trans (hb.mono HB6.out.size))
 have y:=E6.out.below hb E6.out.lt;have y':=F6.out.below hb F6.out.lt
 have E7:=Lh y;have F7:=Lh y'
 have x0:=y.cell 0;have x1:=y.cell 1;have x2:=y.cell 2;have x3:=y.cell 3;have x4:=y.cell 4;have x5:=y.cell 5;have x6:=y.cell 6
 have r0:=y'.cell 0;have r1:=y'.cell 1;have r2:=y'.cell 2;have r3:=y'.cell 3;have r4:=y'.cell 4;have r5:=y'.cell 5;have r6:=y'.cell 6
 simp at x0 r0 x1 r1 x2 r2 x3 r3 x4 r4 x5 r5 x6 r6
 have z7:=y'.lt
 clear hb y y'
 go_wp2_with fail
 go_ret
 exact ⟨ret_bool rfl,HB7.out⟩
end Go.Proofs.YtjonaidancomgaaGreatDoor
