/- Parts of the proof, joined into one text: SxParB, SxParC, SxRat, SxParD, SxParE. -/
import Derived.Test.YtjonaidancomgaaGreatDoorPLxI
import Derived.Test.YtjonaidancomgaaGreatDoorPLxE
import Derived.Deep.QuietTactic
import Derived.BigQuiet

namespace Go.Proofs.YtjonaidancomgaaGreatDoor
open Go.RowKit

theorem tok_cut {w:World} {B b o g:Nat} {t:Lx.Tok} {r:List Lx.Tok} (hT:Toks w B (some ⟨b,o,none⟩) (t::r)) (hBg:B≤g) (u:Value) (b1 o1:Nat) (h:r≠[]→b1=b∧o1=o+4):Toks (w.setCell ⟨g,0,none⟩ u) B (some ⟨b1,o1,none⟩) r:=
 ⟨fun j y hj=>by
  have hr:r≠[]:=by intro e;rw[e] at hj;simp at hj
  obtain ⟨rfl,rfl⟩:=h hr
  obtain ⟨b2,o2,e2,hb2,h4⟩:=hT.at_ (j+1) y (by simpa using hj)
  injection e2 with e2
  injection e2 with e3 e4
  subst e3;subst e4
  refine ⟨_,_,rfl,hb2,?_⟩
  rw[show o+4+j*4=o+(j+1)*4 by omega]
  exact h4.cells fun i=>(FrG.set g 0 w u).bel.cell (p:=⟨b1,i,none⟩) (show b1 < g by omega),by have:=hT.len;simp only[List.length_cons] at this;omega,fun y hy=>hT.texts y (List.mem_cons_of_mem _ hy)⟩
theorem ps_cut {g B b o:Nat} {last:Int} {t:Lx.Tok} {r:List Lx.Tok} {w:World} {v0:Value} (hb:Blk w g 143 #[v0,.int .i64 last]) (hT:Toks w B (some ⟨b,o,none⟩) (t::r)) (hB:B≤g) (b1 o1 c1:Nat) (h1:r≠[]→b1=b∧o1=o+4) (hc:r.length≤c1) :
  PS g B last r (w.setCell ⟨g,0,none⟩ (.slice (some ⟨b1,o1,none⟩) r.length c1))∧FrG g w (w.setCell ⟨g,0,none⟩ (.slice (some ⟨b1,o1,none⟩) r.length c1)):=
 ⟨⟨⟨_,_,by have:=hb.set 0 (.slice (some ⟨b1,o1,none⟩) r.length c1);simpa using this,tok_cut hT hB _ _ _ h1,hc⟩,hB⟩,FrG.set g 0 w _⟩

def SkipPost (g B:Nat) (last:Int) (hit:Bool) (l:List Lx.Tok) (w:World) (e:Ending) (w':World):Prop:=e = .returned (.bool hit)∧PS g B last (if hit then l.tail else l) w'∧FrG g w w'
set_option maxHeartbeats 1000000 in
theorem sSkip (g B:Nat) (l:List Lx.Tok) (last k:Int) (x:ByteArray) (w:World) (h:PS g B last l w) :
  Calls Tryz.prog 173 #[.pointer (some ⟨g,0,none⟩),.int .i64 k,.string x] w (SkipPost g B last (Sx.hit k x.data.toList l) l w):=by
 have H:=Lh h
 have Hn:=Lh (sNext g B l last k x w h)
 cases hh:Sx.hit k x.data.toList l with
 | false=>
  rw[hh] at Hn
  clear h hh
  go_enter Tryz.func173,Tryz.ntmps173
  go_wp2_with fail
  refine Hn.out.mono ?_
  rintro e w1 ⟨rfl,rfl⟩
  go_wp2_with fail
  go_ret
  exact ⟨rfl,H.out,FrG.refl _ _⟩
 | true=>
  rw[hh] at Hn
  obtain ⟨⟨A,c,hb,hT,hcap⟩,hB⟩:=h
  cases l with
  | nil=>cases hh
  | cons t r=>
   obtain ⟨b,o,rfl,hbB,-⟩:=hT.at_ 0 t rfl
   have hl:=hT.len
   simp only[List.length_cons] at hl hcap
   have c0:=hb.cell 0;have f0:=hb.free 0
   simp at c0
   have Hc:=Lh (fun b1 o1 c1 h1 hc=>ps_cut hb hT hB b1 o1 c1 h1 hc)
   clear hb hT hh
   go_enter Tryz.func173,Tryz.ntmps173
   go_wp2_with fail
   refine Hn.out.mono ?_
   rintro e w1 ⟨rfl,rfl⟩
   go_wp2_with fail
   ·have hr:r = []:=List.eq_nil_of_length_eq_zero (by omega)
    go_ret
    have:=Hc.out b o 0 (fun h=>absurd hr h) (by rw [hr];exact Nat.le_refl 0)
    exact ⟨rfl,by simpa using this.1,by simpa using this.2⟩
   ·go_ret
    have:=Hc.out b (o+4) (c - 1) (fun _=>⟨rfl,rfl⟩) (by omega)
    exact ⟨rfl,by simpa using this.1,by simpa using this.2⟩
theorem sIsWord (g B:Nat) (l:List Lx.Tok) (last:Int) (x:ByteArray) (w:World) (h:PS g B last l w) :
  Calls Tryz.prog 159 #[.pointer (some ⟨g,0,none⟩),.string x] w (SkipPost g B last (Sx.hit 1 x.data.toList l) l w):=by
 have Hs:=Lh (sSkip g B l last 1 x w h)
 clear h
 go_enter Tryz.func159,Tryz.ntmps159
 go_wp2_with fail
 refine Hs.out.mono ?_
 rintro e w1 ⟨rfl,h1,h2⟩
 have H1:=Lh h1;have H2:=Lh h2
 clear h1 h2
 go_wp2_with fail
 go_ret
 exact ⟨rfl,H1.out,H2.out⟩
theorem sIsSign (g B:Nat) (l:List Lx.Tok) (last:Int) (x:ByteArray) (w:World) (h:PS g B last l w) :
  Calls Tryz.prog 112 #[.pointer (some ⟨g,0,none⟩),.string x] w (SkipPost g B last (Sx.hit 3 x.data.toList l) l w):=by
 have Hs:=Lh (sSkip g B l last 3 x w h)
 clear h
 go_enter Tryz.func112,Tryz.ntmps112
 go_wp2_with fail
 refine Hs.out.mono ?_
 rintro e w1 ⟨rfl,h1,h2⟩
 have H1:=Lh h1;have H2:=Lh h2
 clear h1 h2
 go_wp2_with fail
 go_ret
 exact ⟨rfl,H1.out,H2.out⟩

theorem sWord (g B:Nat) (l:List Lx.Tok) (last:Int) (x:ByteArray) (w:World) (h:PS g B last l w) :
  Calls Tryz.prog 161 #[.pointer (some ⟨g,0,none⟩),.string x] w (SPar g B last w vUnit (Sx.word last x.data.toList l)):=by
 have Hs:=Lh (sIsWord g B l last x w h)
 obtain ⟨R,hR⟩:∃ R,R=Sx.word last x.data.toList l:=⟨_,rfl⟩
 rw[←hR]
 unfold Sx.word Sx.need at hR
 clear h
 cases hh:Sx.hit 1 x.data.toList l with
 | true=>
  rw[hh,if_pos rfl] at hR
  rw[hh] at Hs
  have HR:=Lh hR
  clear hR hh
  go_enter Tryz.func161,Tryz.ntmps161
  go_wp2_with fail
  refine Hs.out.mono ?_
  rintro e w1 ⟨rfl,h1,h2⟩
  have H1:=Lh h1;have H2:=Lh h2
  clear h1 h2
  go_wp2_with fail
  go_end0
  rw[HR.out]
  exact ⟨_,rfl,rfl,H1.out,H2.out⟩
 | false=>
  rw[hh,if_neg (by simp)] at hR
  rw[hh] at Hs
  have HR:=Lh hR
  clear hR hh
  go_enter Tryz.func161,Tryz.ntmps161
  go_wp2_with fail
  refine Hs.out.mono ?_
  rintro e w1 ⟨rfl,h1,h2⟩
  have H2:=Lh h2
  have Hf:=Lh (sFail g B l last 100 w1 h1)
  clear h1 h2
  go_wp2_with fail
  refine Hf.out.mono ?_
  rintro e w2 ⟨he,rfl⟩
  unfold FailS at he
  subst he
  exact ⟨rfl,by rw [HR.out];exact ⟨rfl,H2.out⟩⟩
theorem sSign (g B:Nat) (l:List Lx.Tok) (last:Int) (c:UInt8) (w:World) (h:PS g B last l w) :
  Calls Tryz.prog 111 #[.pointer (some ⟨g,0,none⟩),.string ⟨#[c]⟩] w (SPar g B last w vUnit (Sx.sign last c l)):=by
 have Hs:=Lh (sIsSign g B l last ⟨#[c]⟩ w h)
 obtain ⟨R,hR⟩:∃ R,R=Sx.sign last c l:=⟨_,rfl⟩
 rw[←hR]
 unfold Sx.sign Sx.need at hR
 clear h
 rw[show (⟨#[c]⟩:ByteArray).data.toList = [c] from rfl] at Hs
 cases hh:Sx.hit 3 [c] l with
 | true=>
  rw[hh,if_pos rfl] at hR
  rw[hh] at Hs
  have HR:=Lh hR
  clear hR hh
  go_enter Tryz.func111,Tryz.ntmps111
  go_wp2_with fail
  refine Hs.out.mono ?_
  rintro e w1 ⟨rfl,h1,h2⟩
  have H1:=Lh h1;have H2:=Lh h2
  clear h1 h2
  go_wp2_with fail
  go_end0
  rw[HR.out]
  exact ⟨_,rfl,rfl,H1.out,H2.out⟩
 | false=>
  rw[hh,if_neg (by simp)] at hR
  rw[hh] at Hs
  have HR:=Lh hR
  clear hR hh
  go_enter Tryz.func111,Tryz.ntmps111
  go_wp2_with fail
  refine Hs.out.mono ?_
  rintro e w1 ⟨rfl,h1,h2⟩
  have H2:=Lh h2
  have Hf:=Lh (sFail g B l last 100 w1 h1)
  clear h1 h2
  go_wp2_with fail
  refine Hf.out.mono ?_
  rintro e w2 ⟨he,rfl⟩
  unfold FailS at he
  subst he
  exact ⟨rfl,by rw [HR.out];exact ⟨rfl,H2.out⟩⟩
end Go.Proofs.YtjonaidancomgaaGreatDoor

namespace Go.Proofs.YtjonaidancomgaaGreatDoor
open Go.RowKit

set_option maxHeartbeats 1000000 in
theorem sName (g B:Nat) (l:List Lx.Tok) (last:Int) (w:World) (h:PS g B last l w) :
  Calls Tryz.prog 157 #[.pointer (some ⟨g,0,none⟩)] w (SPar g B last w vStr (Sx.name last l)):=by
 have Hf:=Lh (sFail g B l last 100 w h)
 obtain ⟨R,hR⟩:∃ R,R=Sx.name last l:=⟨_,rfl⟩
 rw[←hR]
 obtain ⟨⟨A,c,hb,hT,hcap⟩,hB⟩:=h
 have c0:=hb.cell 0;have f0:=hb.free 0
 simp at c0
 cases l with
 | nil=>
  have HR:Hid (R = .bad (Sx.front last []) 100):=Lh hR
  clear hb hT hR
  go_enter Tryz.func157,Tryz.ntmps157
  go_wp2_with fail
  refine Hf.out.mono ?_
  rintro e w2 ⟨he,rfl⟩
  unfold FailS at he
  subst he
  exact ⟨rfl,by rw [HR.out];exact ⟨rfl,FrG.refl _ _⟩⟩
 | cons t r=>
  obtain ⟨b,o,rfl,hbB,q0,q1,q2,q3⟩:=hT.at_ 0 t rfl
  have hl:=hT.len
  simp only[List.length_cons] at hl hcap c0
  simp only[Nat.zero_mul,Nat.add_zero] at q0 q1 q2 q3
  have hr0:((r.length:Int)+1 == 0)=false:=by simp;omega
  have hbg:b≠g:=by omega
  have htx:=hT.texts t (by simp)
  have Hc:=Lh (fun b1 o1 c1 h1 hc=>ps_cut hb hT hB b1 o1 c1 h1 hc)
  clear hb hT
  cases hk:t.kind != 1
  ·have HR:Hid (R = .ok t.text r):=Lh (by rw [hR];unfold Sx.name;simp only;rw[if_pos (by simpa using hk)])
   clear hR
   go_enter Tryz.func157,Tryz.ntmps157
   go_wp2_with fail
   ·have hr:r = []:=List.eq_nil_of_length_eq_zero (by omega)
    go_ret
    rw[HR.out]
    have:=Hc.out b o 0 (fun h=>absurd hr h) (by rw [hr];exact Nat.le_refl 0)
    exact ⟨_,rfl,⟨rfl,htx⟩,by simpa using this.1,by simpa using this.2⟩
   ·go_ret
    rw[HR.out]
    have:=Hc.out b (o+4) (c - 1) (fun _=>⟨rfl,rfl⟩) (by omega)
    exact ⟨_,rfl,⟨rfl,htx⟩,by simpa using this.1,by simpa using this.2⟩
  ·have HR:Hid (R = .bad (Sx.front last (t::r)) 100):=Lh (by rw [hR];unfold Sx.name;simp only;rw[if_neg (by simpa using hk)];rfl)
   clear hR
   go_enter Tryz.func157,Tryz.ntmps157
   go_wp2_with fail
   refine Hf.out.mono ?_
   rintro e w2 ⟨he,rfl⟩
   unfold FailS at he
   subst he
   exact ⟨rfl,by rw [HR.out];exact ⟨rfl,FrG.refl _ _⟩⟩

set_option maxHeartbeats 1000000 in
theorem sNumber (g B:Nat) (l:List Lx.Tok) (last lo hi:Int) (w:World) (h:PS g B last l w) :
  Calls Tryz.prog 109 #[.pointer (some ⟨g,0,none⟩),.int .i64 lo,.int .i64 hi] w (SPar g B last w vInt (Sx.number last lo hi l)):=by
 have Hf:=Lh (sFail g B l last 100 w h)
 obtain ⟨R,hR⟩:∃ R,R=Sx.number last lo hi l:=⟨_,rfl⟩
 rw[←hR]
 obtain ⟨⟨A,c,hb,hT,hcap⟩,hB⟩:=h
 have c0:=hb.cell 0;have f0:=hb.free 0
 simp at c0
 cases l with
 | nil=>
  have HR:Hid (R = .bad (Sx.front last []) 100):=Lh hR
  clear hb hT hR
  go_enter Tryz.func109,Tryz.ntmps109
  go_wp2_with fail
  refine Hf.out.mono ?_
  rintro e w2 ⟨he,rfl⟩
  unfold FailS at he
  subst he
  exact ⟨rfl,by rw [HR.out];exact ⟨rfl,FrG.refl _ _⟩⟩
 | cons t r=>
  obtain ⟨b,o,rfl,hbB,q0,q1,q2,q3⟩:=hT.at_ 0 t rfl
  have hl:=hT.len
  simp only[List.length_cons] at hl hcap c0
  simp only[Nat.zero_mul,Nat.add_zero] at q0 q1 q2 q3
  have hr0:((r.length:Int)+1 == 0)=false:=by simp;omega
  have hbg:b≠g:=by omega
  have Hc:=Lh (fun b1 o1 c1 h1 hc=>ps_cut hb hT hB b1 o1 c1 h1 hc)
  clear hb hT
  by_cases hk:t.kind=2∧lo≤t.n∧t.n≤hi
  ·have HR:Hid (R = .ok t.n r):=Lh (by rw [hR];unfold Sx.number;simp only;rw[if_pos hk])
   obtain ⟨hk1,hk2,hk3⟩:=hk
   have hk4:(t.kind != 2)=false:=by simp [hk1]
   clear hR hk1
   go_enter Tryz.func109,Tryz.ntmps109
   go_wp2_with fail
   ·have hr:r = []:=List.eq_nil_of_length_eq_zero (by omega)
    go_ret
    rw[HR.out]
    have:=Hc.out b o 0 (fun h=>absurd hr h) (by rw [hr];exact Nat.le_refl 0)
    exact ⟨_,rfl,rfl,by simpa using this.1,by simpa using this.2⟩
   ·go_ret
    rw[HR.out]
    have:=Hc.out b (o+4) (c - 1) (fun _=>⟨rfl,rfl⟩) (by omega)
    exact ⟨_,rfl,rfl,by simpa using this.1,by simpa using this.2⟩
  ·have HR:Hid (R = .bad (Sx.front last (t::r)) 100):=Lh (by rw [hR];unfold Sx.number;simp only;rw[if_neg hk];rfl)
   clear hR
   cases hk4:t.kind != 2 with
   | true=>
    clear hk
    go_enter Tryz.func109,Tryz.ntmps109
    go_wp2_with fail
    refine Hf.out.mono ?_
    rintro e w2 ⟨he,rfl⟩
    unfold FailS at he
    subst he
    exact ⟨rfl,by rw [HR.out];exact ⟨rfl,FrG.refl _ _⟩⟩
   | false=>
    have hk5:t.kind=2:=by simpa using hk4
    by_cases hlo:t.n < lo
    ·clear hk hk5
     go_enter Tryz.func109,Tryz.ntmps109
     go_wp2_with fail
     refine Hf.out.mono ?_
     rintro e w2 ⟨he,rfl⟩
     unfold FailS at he
     subst he
     exact ⟨rfl,by rw [HR.out];exact ⟨rfl,FrG.refl _ _⟩⟩
    ·have hhi:hi < t.n:=by
      rcases Int.lt_or_le hi t.n with h | h
      ·exact h
      ·exact absurd ⟨hk5,by omega,h⟩ hk
     have hlo2:lo≤t.n:=by omega
     clear hk hk5 hlo
     go_enter Tryz.func109,Tryz.ntmps109
     go_wp2_with fail
     refine Hf.out.mono ?_
     rintro e w2 ⟨he,rfl⟩
     unfold FailS at he
     subst he
     exact ⟨rfl,by rw [HR.out];exact ⟨rfl,FrG.refl _ _⟩⟩
end Go.Proofs.YtjonaidancomgaaGreatDoor

namespace Go.Proofs.YtjonaidancomgaaGreatDoor
open Go.RowKit

theorem u64_neg (n:Int) (h1:-1073741824≤n) (h:n < 0):IntKind.u64.wrap (-IntKind.u64.wrap n)=(n.natAbs:Nat):=by
 unfold IntKind.wrap
 simp only[show IntKind.u64.signed=false from rfl,show IntKind.u64.bits=64 from rfl,Bool.false_and,Bool.false_eq_true,if_false]
 omega
theorem sSize (n:Int) (h1:-1073741824≤n) (h2:n≤1073741824) (w:World):Calls Tryz.prog 203 #[.int .i64 n] w fun e w'=>e = .returned (.int .u64 (n.natAbs:Nat))∧w'=w:=by
 by_cases h:n < 0
 ·go_enter Tryz.func203,Tryz.ntmps203
  go_wp2
  go_ret
  exact ⟨ret_int (u64_neg n h1 h),rfl⟩
 ·go_enter Tryz.func203,Tryz.ntmps203
  go_wp2
  go_ret
  exact ⟨ret_int (by omega),rfl⟩
def stepF (sb:Nat):Value:=.func (.func 222) #[] #[.pointer (some ⟨sb,0,none⟩)]
theorem sStep (sb:Nat):∀ (k:Nat) (x y:Nat) (w:World),y≤k→x≤1073741824→y≤1073741824→w.cell? ⟨sb,0,none⟩=some (stepF sb)→
  Calls Tryz.prog 222 #[.int .u64 x,.int .u64 y,.pointer (some ⟨sb,0,none⟩)] w fun e w'=>e = .returned (.int .u64 (Nat.gcd x y:Nat))∧∃ n,w'=w.drewN n:=by
 intro k
 induction k with
 | zero=>
  intro x y w hy _ _ hc
  obtain rfl:y=0:=by omega
  clear hc
  go_enter Tryz.func222,Tryz.ntmps222
  go_wp2_with fail
  go_ret
  exact ⟨by simp,0,rfl⟩
 | succ k ih=>
  intro x y w hy hx hy2 hc
  by_cases h0:y=0
  ·subst h0
   clear hc
   go_enter Tryz.func222,Tryz.ntmps222
   go_wp2_with fail
   go_ret
   exact ⟨by simp,0,rfl⟩
  ·have hm:x % y < y:=Nat.mod_lt _ (by omega)
   have hy0:((y:Int) == 0)=false:=by simp;omega
   have hg:Nat.gcd y (x % y)=Nat.gcd x y:=by rw [Nat.gcd_comm x y,Nat.gcd_rec y x,Nat.gcd_comm]
   have Hrec:=Lh (fun n=>ih y (x % y) (w.drewN n) (by omega) hy2 (by omega) hc)
   rw[hg] at Hrec
   have hy1:1≤y:=by omega
   unfold stepF at hc
   clear hg h0 ih
   go_enter Tryz.func222,Tryz.ntmps222
   go_wp2_with fail
   go_quiet ((go_at_call 222;exact Calls.quiet_of (Hrec.out _)))
   go_wp2_with fail
   go_ret
   exact ⟨rfl,_,rfl⟩
set_option maxRecDepth 20000 in
set_option maxHeartbeats 1000000 in
theorem sCommon (a b:Int) (h1:-1073741824≤a) (h2:a≤1073741824) (h3:-1073741824≤b) (h4:b≤1073741824) (w:World) :
  Calls Tryz.prog 202 #[.int .i64 a,.int .i64 b] w fun e w'=>e = .returned (.int .u64 (Int.gcd a b:Nat))∧Below w.heap.size w w':=by
 have Hs:=Lh (fun (W:World) (hc:W.cell? ⟨w.heap.size,0,none⟩=some (stepF w.heap.size))=>sStep w.heap.size b.natAbs a.natAbs b.natAbs W (Nat.le_refl _) (by omega) (by omega) hc)
 have hg:Nat.gcd a.natAbs b.natAbs=Int.gcd a b:=rfl
 rw[hg] at Hs
 clear hg
 go_enter Tryz.func202,Tryz.ntmps202
 go_wp2_with fail
 go_quiet (first
  | (go_at_call 203;exact Calls.quiet_of_same (sSize _ (by assumption) (by assumption) _))
  | (go_at_call 222;exact Calls.quiet_of (Hs.out _ (by simp [stepF]))))
 go_wp2_with fail
 go_ret
 exact ⟨rfl,bel_drewN ((Below.refl _ _).alloc (Nat.le_refl _) _) _⟩
theorem sSizeN (n:Nat) (h2:n≤1073741824) (w:World):Calls Tryz.prog 203 #[.int .i64 n] w fun e w'=>e = .returned (.int .u64 n)∧w'=w:=sSize n (by omega) (by omega) w
theorem sCommonN (a b:Nat) (h2:a≤1073741824) (h4:b≤1073741824) (w:World) :
  Calls Tryz.prog 202 #[.int .i64 a,.int .i64 b] w fun e w'=>e = .returned (.int .u64 (Nat.gcd a b:Nat))∧Below w.heap.size w w':=sCommon a b (by omega) (by omega) (by omega) (by omega) w

def NewPost (n d:Nat) (w:World) (e:Ending) (w':World):Prop:=e = .returned (.tuple #[.agg #[.int .i64 (Sx.lowest n d).num,.int .i64 (Sx.lowest n d).den],.int .i64 0])∧Below w.heap.size w w'
set_option maxRecDepth 20000 in
set_option maxHeartbeats 1000000 in
theorem sNew (n d:Nat) (h1:n≤12000) (h2:1≤d) (h3:d≤1000) (w:World):Calls Tryz.prog 172 #[.int .i64 n,.int .i64 d] w (NewPost n d w):=by
 have hg1:1≤Nat.gcd n d:=Nat.gcd_pos_of_pos_right n (by omega)
 have hq1:n / Nat.gcd n d≤n:=Nat.div_le_self _ _
 have hq2:d / Nat.gcd n d≤d:=Nat.div_le_self _ _
 have hlow:Sx.lowest n d=⟨((n / Nat.gcd n d:Nat):Int),((d / Nat.gcd n d:Nat):Int)⟩:=by
  unfold Sx.lowest
  rw[show Int.gcd (n:Int) (d:Int)=Nat.gcd n d from rfl]
  simp
 have Hl:=Lh hlow
 have Hc:=Lh (fun W=>sCommonN n d (by omega) (by omega) W)
 obtain ⟨g,hg⟩:∃ g,g=Nat.gcd n d:=⟨_,rfl⟩
 rw[←hg] at hg1 hq1 hq2 Hl Hc
 have hgd:g≤1000:=by rw [hg];exact Nat.le_trans (Nat.gcd_le_right n (by omega)) h3
 have hd0:((d:Int) == 0)=false:=by simp;omega
 have hg0:((g:Int) == 0)=false:=by simp;omega
 obtain ⟨q,hq⟩:∃ q,q=n / g:=⟨_,rfl⟩
 obtain ⟨r,hr⟩:∃ r,r=d / g:=⟨_,rfl⟩
 have e1:(n:Int) / (g:Int)=(q:Int):=by rw [hq];rfl
 have e2:(d:Int) / (g:Int)=(r:Int):=by rw [hr];rfl
 rw[←hq] at hq1 Hl
 rw[←hr] at hq2 Hl
 clear hlow hg hq hr
 have hn2:n≤1073741824:=by omega
 have hd2:d≤1073741824:=by omega
 go_enter Tryz.func172,Tryz.ntmps172
 go_wp2_with fail
 refine (Hc.out _).mono ?_
 rintro e w1 ⟨rfl,hb⟩
 have hx:=(Blk.new w 75 #[.int .i64 0,.int .i64 0]).below hb (by simp)
 have hbel:=((Below.refl w.heap.size w).alloc (Nat.le_refl _) (.cells #[.int .i64 0,.int .i64 0] 75)).trans (hb.mono (by simp))
 have x0:=hx.cell 0;have x1:=hx.cell 1;have f0:=hx.free 0;have f1:=hx.free 1
 simp at x0 x1
 have Hbel:=Lh hbel;have Hx:=Lh hx
 clear hb hx hbel
 go_wp2_with fail
 go_quiet ((go_at_call 203;exact Calls.quiet_of_same (sSizeN _ (by assumption) _)))
 go_wp2_with fail
 obtain ⟨W,hW⟩:∃ W,W=((((w1.drewN nq).setCell ⟨w.heap.size,0,none⟩ (.int .i64 q)).setCell ⟨w.heap.size,1,none⟩ (.int .i64 r)).setCell ⟨w.heap.size,0,none⟩ (.int .i64 q)).setCell ⟨w.heap.size,1,none⟩ (.int .i64 r):=⟨_,rfl⟩
 have hB:Blk W w.heap.size 75 #[.int .i64 q,.int .i64 r]:=by
  rw[hW]
  have:=((((Hx.out.drewN nq).set 0 (.int .i64 q)).set 1 (.int .i64 r)).set 0 (.int .i64 q)).set 1 (.int .i64 r)
  simpa using this
 have d0:=hB.cell 0;have d1:=hB.cell 1
 simp at d0 d1
 have hb:=bel_drewN Hbel.out nq
 have hbW:Below w.heap.size w W:=by
  rw[hW]
  exact (((hb.setCell (p:=⟨w.heap.size,0,none⟩) (Nat.le_refl _) _).setCell (p:=⟨w.heap.size,1,none⟩) (Nat.le_refl _) _).setCell (p:=⟨w.heap.size,0,none⟩) (Nat.le_refl _) _).setCell (p:=⟨w.heap.size,1,none⟩) (Nat.le_refl _) _
 rw[←hW]
 clear hW
 exact bodyPost_ret (v:=.tuple #[.agg #[.int .i64 q,.int .i64 r],.int .i64 0]) (by simp [results,Tryz.results172,go_sem,d0,d1]) rfl ⟨by rw [Hl.out],hbW⟩
end Go.Proofs.YtjonaidancomgaaGreatDoor

namespace Go.Proofs.YtjonaidancomgaaGreatDoor
open Go.RowKit

theorem SPar.split {α:Type} {g B:Nat} {last:Int} {w w':World} {V:α→Value→World→Prop} {r:Sx.R α} {e:Ending} (h:SPar g B last w V r e w') :
  (∃ p x,r = .bad p x∧e = .panicked [{ v:=.iface 141 (.agg #[.int .i64 p,.int .i64 x]),recovered:=false }]∧FrG g w w')∨(∃ a l v,r = .ok a l∧e = .returned v∧V a v w'∧PS g B last l w'∧FrG g w w'):=by
 cases r with
 | bad p x=>exact .inl ⟨p,x,rfl,h.1,h.2⟩
 | ok a l=>
  obtain ⟨v,h1,h2,h3,h4⟩:=h
  exact .inr ⟨a,l,v,rfl,h1,h2,h3,h4⟩
theorem SPar.of_bad {α:Type} {g B:Nat} {last p x:Int} {w w':World} {V:α→Value→World→Prop} {r:Sx.R α} (h:r = .bad p x) (hf:FrG g w w'):SPar g B last w V r (.panicked [{ v:=.iface 141 (.agg #[.int .i64 p,.int .i64 x]),recovered:=false }]) w':=by
 rw[h];exact ⟨rfl,hf⟩
theorem Sx.go_ok {α β:Type} {r:Sx.R α} {f:α→List Lx.Tok→Sx.R β} {R:Sx.R β} {a:α} {l:List Lx.Tok} (h:R=r.bind f) (hv:r = .ok a l):R=f a l:=by rw [h,hv];rfl
theorem Sx.go_bad {α β:Type} {r:Sx.R α} {f:α→List Lx.Tok→Sx.R β} {R:Sx.R β} {p x:Int} (h:R=r.bind f) (hv:r = .bad p x):R = .bad p x:=by rw [h,hv];rfl
theorem Sx.number_ok {last lo hi n:Int} {l r:List Lx.Tok} (h:Sx.number last lo hi l = .ok n r):lo≤n∧n≤hi:=by
 unfold Sx.number at h
 split at h
 ·split at h
  ·rename_i hk
   injection h with h1 h2
   subst h1
   exact hk.2
  ·unfold Sx.fail at h;cases h
 ·unfold Sx.fail at h;cases h
theorem PS.setFar {g B:Nat} {last:Int} {l:List Lx.Tok} {w:World} (h:PS g B last l w) {b:Nat} (hb:g < b) (i:Nat) (u:Value):PS g B last l (w.setCell ⟨b,i,none⟩ u):=by
 obtain ⟨⟨A,c,h1,h2,h3⟩,hB⟩:=h
 exact ⟨⟨A,c,h1.far (p:=⟨b,i,none⟩) (show g≠b by omega) u,h2.below (Below.setCell (Below.refl b w) (show b≤(⟨b,i,none⟩:Addr).block from Nat.le_refl b) u) (by omega),h3⟩,hB⟩
theorem FrG.setFar {g:Nat} {w w':World} (h:FrG g w w') (hg:g < w.heap.size) {b:Nat} (hb:w.heap.size≤b) (i:Nat) (u:Value):FrG g w (w'.setCell ⟨b,i,none⟩ u):=
 ⟨h.bel.setCell (show g≤b by omega) u,fun k hk hn=>(Below.heap_setCell w' ⟨b,i,none⟩ u k (show k≠b by omega)).trans (h.keep k hk hn)⟩
theorem FrG.alloc {g:Nat} {w w':World} (h:FrG g w w') (hg:g < w.heap.size) (o:Obj):FrG g w (w'.alloc o):=h.trans (FrG.below ((Below.refl _ _).alloc (Nat.le_refl _) o) (by have:=h.bel.size;omega))
theorem PS.alloc {g B:Nat} {last:Int} {l:List Lx.Tok} {w:World} (h:PS g B last l w) (o:Obj):PS g B last l (w.alloc o):=h.next ((Below.refl _ _).alloc (Nat.le_refl _) o)
def vRat (r:Sx.Ratio) (v:Value) (_:World):Prop:=v = .agg #[.int .i64 r.num,.int .i64 r.den]
def vRef (r:List UInt8 × Int) (v:Value) (_:World):Prop:=v = .tuple #[strV r.1,.int .i64 r.2]∧r.1.length≤140737488351232

set_option maxRecDepth 20000 in
set_option maxHeartbeats 2000000 in
theorem sRatio (g B:Nat) (l:List Lx.Tok) (last:Int) (w:World) (h:PS g B last l w) :
  Calls Tryz.prog 110 #[.pointer (some ⟨g,0,none⟩)] w (SPar g B last w vRat (Sx.ratio last l)):=by
 obtain ⟨R,hR⟩:∃ R,R=Sx.ratio last l:=⟨_,rfl⟩
 rw[←hR]
 have hlt:=h.lt
 have hb0:Below w.heap.size w (w.alloc (.cells #[.int .i64 0,.int .i64 0] 75)):=(Below.refl _ _).alloc (Nat.le_refl _) _
 have H:=Lh (h.next hb0);have HR:=Lh hR;have HF:=Lh (FrG.below hb0 hlt)
 have X:=Lh (Blk.new w 75 #[.int .i64 0,.int .i64 0])
 clear h hR hb0
 go_enter Tryz.func110,Tryz.ntmps110
 go_wp2_with fail
 refine (sNumber g B l last 0 12000 _ H.out).mono ?_
 intro e w1 he
 rcases he.split with ⟨p,x,hv,rfl,hf⟩ | ⟨n,l1,v,hv,rfl,hV,hs,hf⟩
 ·exact ⟨rfl,SPar.of_bad (Sx.go_bad HR.out hv) (HF.out.trans hf)⟩
 ·unfold vInt at hV
  subst hV
  replace HR:=Lh (Sx.go_ok HR.out hv)
  obtain ⟨hn1,hn2⟩:=Sx.number_ok hv
  obtain ⟨z,rfl⟩:=Int.eq_ofNat_of_zero_le hn1
  have HS:=Lh hs;have HF1:=Lh (HF.out.trans hf);have X1:=Lh (hf.blk X.out (by omega))
  clear hv hs hf
  go_wp2_with fail
  refine (sSign g B l1 last 47 _ HS.out).mono ?_
  intro e w2 he
  rcases he.split with ⟨p,x,hv,rfl,hf⟩ | ⟨u,l2,v,hv,rfl,hV,hs,hf⟩
  ·exact ⟨rfl,SPar.of_bad (Sx.go_bad HR.out hv) (HF1.out.trans hf)⟩
  ·unfold vUnit at hV
   subst hV
   replace HR:=Lh (Sx.go_ok HR.out hv)
   have HS2:=Lh hs;have HF2:=Lh (HF1.out.trans hf);have X2:=Lh (hf.blk X1.out (by omega))
   clear hv hs hf
   go_wp2_with fail
   refine (sNumber g B l2 last (max 1 (((z:Int)+12 - 1) / 12)) 1000 _ HS2.out).mono ?_
   intro e w3 he
   have hm:((z:Int)+12 - 1) / 12=((z:Int)+11) / 12:=by omega
   rw[hm] at he
   clear hm
   rcases he.split with ⟨p,x,hv,rfl,hf⟩ | ⟨d,l3,v,hv,rfl,hV,hs,hf⟩
   ·exact ⟨rfl,SPar.of_bad (Sx.go_bad HR.out hv) (HF2.out.trans hf)⟩
   ·unfold vInt at hV
    subst hV
    replace HR:=Lh (Sx.go_ok HR.out hv)
    obtain ⟨hd1,hd2⟩:=Sx.number_ok hv
    have hd3:1≤d:=by have:=Int.le_max_left 1 (((z:Int)+11) / 12);omega
    obtain ⟨y,rfl⟩:=Int.eq_ofNat_of_zero_le (show 0≤d by omega)
    have HS3:=Lh hs;have HF3:=Lh (HF2.out.trans hf);have X3:=Lh (hf.blk X2.out (by omega))
    have Hnew:=Lh (sNew z y (by omega) (by omega) (by omega) w3)
    have hsz:=hf.bel.size;have hsz2:=X2.out.lt
    clear hv hs hf hd1
    go_wp2_with fail
    refine Hnew.out.mono ?_
    rintro e w4 ⟨rfl,hb⟩
    have x4:=X3.out.below hb X3.out.lt
    have hs4:=HS3.out.next hb
    have hf4:=HF3.out.trans (FrG.below hb HS3.out.lt)
    obtain ⟨q,hq⟩:∃ q,q=Sx.lowest z y:=⟨_,rfl⟩
    rw[←hq] at HR ⊢
    have HS4:=Lh hs4;have HF4:=Lh hf4;have X4:=Lh x4
    have x0:=x4.cell 0;have x1:=x4.cell 1;have f0:=x4.free 0;have f1:=x4.free 1
    simp at x0 x1
    have hw4:=x4.lt
    clear hb x4 hs4 hf4 hq
    go_wp2_with fail
    try simp only [Exit.inBlock,Exit.then]
    obtain ⟨W,hW⟩:∃ W,W=((w4.setCell ⟨w.heap.size,0,none⟩ (.int .i64 q.num)).setCell ⟨w.heap.size,1,none⟩ (.int .i64 q.den)).alloc (.cells #[.int .i64 q.num,.int .i64 q.den] 75):=⟨_,rfl⟩
    have hB:Blk W w.heap.size 75 #[.int .i64 q.num,.int .i64 q.den]:=by
     rw[hW]
     have:=((X4.out.set 0 (.int .i64 q.num)).set 1 (.int .i64 q.den)).alloc (.cells #[.int .i64 q.num,.int .i64 q.den] 75)
     simpa using this
    have hS:PS g B last l3 W:=by rw [hW];exact ((HS4.out.setFar hlt 0 _).setFar hlt 1 _).alloc _
    have hF:FrG g w W:=by rw [hW];exact ((HF4.out.setFar hlt (Nat.le_refl _) 0 _).setFar hlt (Nat.le_refl _) 1 _).alloc hlt _
    have d0:=hB.cell 0;have d1:=hB.cell 1
    simp at d0 d1
    rw[←hW]
    clear hW
    exact bodyPost_ret (v:=.agg #[.int .i64 q.num,.int .i64 q.den]) (by simp [results,Tryz.results110,go_sem,d0,d1]) rfl (by rw [HR.out];exact ⟨_,rfl,rfl,hS,hF⟩)

set_option maxRecDepth 20000 in
set_option maxHeartbeats 2000000 in
theorem sRef (g B:Nat) (l:List Lx.Tok) (last:Int) (w:World) (h:PS g B last l w) :
  Calls Tryz.prog 108 #[.pointer (some ⟨g,0,none⟩)] w (SPar g B last w vRef (Sx.ref last l)):=by
 obtain ⟨R,hR⟩:∃ R,R=Sx.ref last l:=⟨_,rfl⟩
 rw[←hR]
 unfold Sx.ref at hR
 have Hs:=Lh (sIsSign g B l last ⟨#[35]⟩ w h)
 rw[show (⟨#[35]⟩:ByteArray).data.toList = [35] from rfl] at Hs
 clear h
 cases hh:Sx.hit 3 [35] l with
 | true=>
  rw[hh,if_pos rfl] at hR
  rw[hh] at Hs
  have HR:=Lh hR
  clear hR hh
  go_enter Tryz.func108,Tryz.ntmps108
  go_wp2_with fail
  refine Hs.out.mono ?_
  rintro e w1 ⟨rfl,h1,h2⟩
  have H1:=Lh h1;have H2:=Lh h2
  clear h1 h2
  go_wp2_with fail
  refine (sNumber g B l.tail last 0 4095 _ H1.out).mono ?_
  intro e w2 he
  rcases he.split with ⟨p,x,hv,rfl,hf⟩ | ⟨n,l1,v,hv,rfl,hV,hs,hf⟩
  ·exact ⟨rfl,SPar.of_bad (Sx.go_bad HR.out hv) (H2.out.trans hf)⟩
  ·unfold vInt at hV
   subst hV
   replace HR:=Lh (Sx.go_ok HR.out hv)
   have HS:=Lh hs;have HF:=Lh (H2.out.trans hf)
   clear hv hs hf he
   go_wp2_with fail
   go_ret2
   rw[HR.out]
   exact ⟨_,rfl,⟨rfl,by simp⟩,HS.out,HF.out⟩
 | false=>
  rw[hh,if_neg (by simp)] at hR
  rw[hh] at Hs
  have HR:=Lh hR
  clear hR hh
  go_enter Tryz.func108,Tryz.ntmps108
  go_wp2_with fail
  refine Hs.out.mono ?_
  rintro e w1 ⟨rfl,h1,h2⟩
  have H1:=Lh h1;have H2:=Lh h2
  clear h1 h2
  go_wp2_with fail
  refine (sName g B l last _ H1.out).mono ?_
  intro e w2 he
  rcases he.split with ⟨p,x,hv,rfl,hf⟩ | ⟨n,l1,v,hv,rfl,hV,hs,hf⟩
  ·exact ⟨rfl,SPar.of_bad (Sx.go_bad HR.out hv) (H2.out.trans hf)⟩
  ·obtain ⟨hV,hnl⟩:=hV
   subst hV
   replace HR:=Lh (Sx.go_ok HR.out hv)
   have HS:=Lh hs;have HF:=Lh (H2.out.trans hf)
   clear hv hs hf he
   go_wp2_with fail
   go_ret2
   rw[HR.out]
   exact ⟨_,rfl,⟨rfl,hnl⟩,HS.out,HF.out⟩
end Go.Proofs.YtjonaidancomgaaGreatDoor

namespace Go.Proofs.YtjonaidancomgaaGreatDoor
open Go.RowKit

structure WordsAt (w : World) (N b o : Nat) (ws : List (List UInt8)) : Prop where
 lt:b < N
 at_:∀ i x,ws[i]?=some x→w.cell? ⟨b,o+i,none⟩=some (strV x)
theorem WordsAt.keep {w w':World} {N b o:Nat} {ws:List (List UInt8)} (h:WordsAt w N b o ws) (hb:Below N w w'):WordsAt w' N b o ws:=⟨h.lt,fun i x hx=>(hb.cell (p:=⟨b,o+i,none⟩) h.lt).trans (h.at_ i x hx)⟩
def GlobAt (w:World) (N gi:Nat) (ws:List (List UInt8)):Prop:=∃ b o c,w.cell? ⟨gi,0,none⟩=some (.slice (some ⟨b,o,none⟩) ws.length c)∧gi < N∧WordsAt w N b o ws
theorem GlobAt.keep {w w':World} {N gi:Nat} {ws:List (List UInt8)} (h:GlobAt w N gi ws) (hb:Below N w w'):GlobAt w' N gi ws:=by
 obtain ⟨b,o,c,h1,h2,h3⟩:=h
 exact ⟨b,o,c,(hb.cell (p:=⟨gi,0,none⟩) h2).trans h1,h2,h3.keep hb⟩
structure EnvS (N : Nat) (w : World) : Prop where
 env:Env w
 size:N≤w.heap.size
 lib:10+1≤N
 rule:GlobAt w N 3 Sx.ruleWords
 kind:GlobAt w N 0 Sx.kindWords
 when_:GlobAt w N 1 Sx.whenWords
 action:GlobAt w N 2 Sx.actionWords
 rep:GlobAt w N 4 Sx.repeatWords
theorem EnvS.keep {N:Nat} {w w':World} (h:EnvS N w) (hb:Below N w w'):EnvS N w':=⟨h.env.below hb h.lib,Nat.le_trans h.size hb.size,h.lib,h.rule.keep hb,h.kind.keep hb,h.when_.keep hb,h.action.keep hb,h.rep.keep hb⟩
theorem EnvS.next {N:Nat} {w w':World} (h:EnvS N w) (hb:Below w.heap.size w w'):EnvS N w':=h.keep (hb.mono h.size)
theorem EnvS.fr {N g:Nat} {w w':World} (h:EnvS N w) (hf:FrG g w w') (hN:N≤g):EnvS N w':=h.keep (hf.bel.mono hN)

def ChoicePost (g B:Nat) (last:Int) (ws:List (List UInt8)) (l:List Lx.Tok) (w:World) (e:Ending) (w':World):Prop:=
 match Sx.find ws l with
 | some i=>e = .returned (.int .i64 (i:Nat))∧PS g B last l.tail w'∧FrG g w w'
 | none=>e = .returned (.int .i64 (-1))∧PS g B last l w'∧FrG g w w'
theorem Sx.find_some {ws:List (List UInt8)} {l:List Lx.Tok} {k:Nat} {x:List UInt8} (hx:ws[k]?=some x) (hh:Sx.hit 1 x l=true) (hno:∀ j,j < k→∀ y,ws[j]?=some y→Sx.hit 1 y l=false):Sx.find ws l=some k:=by
 unfold Sx.find
 obtain ⟨hlt,he⟩:=List.getElem?_eq_some_iff.1 hx
 rw[List.findIdx?_eq_some_iff_getElem]
 refine ⟨hlt,by rw [he];exact hh,fun j hj=>?_⟩
 have:=hno j hj ws[j] (List.getElem?_eq_getElem (by omega))
 simp[this]
theorem Sx.find_none {ws:List (List UInt8)} {l:List Lx.Tok} (hno:∀ (j:Nat) y,ws[j]?=some y→Sx.hit 1 y l=false):Sx.find ws l=none:=by
 unfold Sx.find
 rw[List.findIdx?_eq_none_iff]
 intro y hy
 obtain ⟨j,hj⟩:=List.mem_iff_getElem?.1 hy
 exact hno j y hj

set_option maxRecDepth 20000 in
set_option maxHeartbeats 2000000 in
theorem sChoice (g B N b o c:Nat) (ws:List (List UInt8)) (l:List Lx.Tok) (last:Int) (w:World) (h:PS g B last l w) (hw:WordsAt w N b o ws) (hN:N≤g) (hlen:ws.length≤100) :
  Calls Tryz.prog 158 #[.pointer (some ⟨g,0,none⟩),.slice (some ⟨b,o,none⟩) ws.length c] w (ChoicePost g B last ws l w):=by
 obtain ⟨n,hn⟩:∃ n,n=ws.length:=⟨_,rfl⟩
 rw[←hn] at hlen ⊢
 have H:=Lh h;have HW:=Lh hw;have Hn:=Lh hn
 have hlt:=h.lt;have hbN:=hw.lt
 clear h hw hn
 go_enter Tryz.func158,Tryz.ntmps158
 go_wp2_with fail
 go_loopw [9] (fun v9 wr=>∃ k:Nat,k≤n∧v9 = .int .i64 k∧Hid (PS g B last l wr)∧Hid (FrG g w wr)∧Hid (∀ j,j < k→∀ y,ws[j]?=some y→Sx.hit 1 y l=false)) (fun v9 _=>n - (intOf v9).toNat)
 case atStart=>exact ⟨0,by omega,rfl,H,Lh (FrG.refl _ _),Lh (fun j hj=>absurd hj (Nat.not_lt_zero j))⟩
 case round=>
  obtain ⟨k,hk,rfl,HS,HF,Hno⟩:=hrel
  by_cases hkn:k < n
  ·obtain ⟨x,hx⟩:∃ x,ws[k]?=some x:=⟨_,List.getElem?_eq_getElem (by have:=Hn.out;omega)⟩
   have hc:=(HW.out.keep (HF.out.bel.mono hN)).at_ k x hx
   unfold strV at hc
   have Hs:=Lh (sIsWord g B l last (Lx.bs x) wr HS.out)
   rw[Lx.bs_list] at Hs
   have Hx:=Lh hx
   clear hx
   cases hh:Sx.hit 1 x l with
   | true=>
    rw[hh] at Hs
    have Hh:=Lh hh
    clear hh
    go_wp2_with fail
    refine Hs.out.mono ?_
    rintro e w1 ⟨rfl,h1,h2⟩
    have H1:=Lh h1;have H2:=Lh (HF.out.trans h2)
    clear h1 h2 hc
    go_wp2_with fail
    go_ret
    unfold ChoicePost
    rw[Sx.find_some Hx.out Hh.out Hno.out]
    exact ⟨rfl,H1.out,H2.out⟩
   | false=>
    rw[hh] at Hs
    have Hh:=Lh hh
    clear hh
    go_wp2_with fail
    refine Hs.out.mono ?_
    rintro e w1 ⟨rfl,h1,h2⟩
    have H1:=Lh h1;have H2:=Lh (HF.out.trans h2)
    clear h1 h2 hc
    go_wp2_with fail
    go_roundw
    case rel=>exact ⟨k+1,by omega,by go_num,H1,H2,Lh (fun j hj z hz=>by
     rcases Nat.lt_or_ge j k with h1 | h1
     ·exact Hno.out j h1 z hz
     ·obtain rfl:j=k:=by omega
      rw[Hx.out] at hz;injection hz with hz;rw[←hz];exact Hh.out)⟩
    case measure=>simp [intOf];omega
  ·obtain rfl:k=n:=by omega
   have hf:Sx.find ws l=none:=Sx.find_none (fun j y hy=>Hno.out j (by have:=(List.getElem?_eq_some_iff.1 hy).1;have:=Hn.out;omega) y hy)
   have Hf:=Lh hf
   clear hf
   go_wp2_with fail
   go_ret
   unfold ChoicePost
   rw[Hf.out]
   exact ⟨rfl,HS.out,HF.out⟩
theorem sOneOf (g B N b o c:Nat) (ws:List (List UInt8)) (l:List Lx.Tok) (last:Int) (w:World) (h:PS g B last l w) (hw:WordsAt w N b o ws) (hN:N≤g) (hlen:ws.length≤100) :
  Calls Tryz.prog 107 #[.pointer (some ⟨g,0,none⟩),.slice (some ⟨b,o,none⟩) ws.length c] w (SPar g B last w vInt (Sx.oneOf last ws l)):=by
 have Hc:=Lh (sChoice g B N b o c ws l last w h hw hN hlen)
 obtain ⟨R,hR⟩:∃ R,R=Sx.oneOf last ws l:=⟨_,rfl⟩
 rw[←hR]
 unfold Sx.oneOf at hR
 unfold ChoicePost at Hc
 clear h hw
 cases hf:Sx.find ws l with
 | some i=>
  rw[hf] at Hc hR
  have HR:=Lh hR
  clear hR hf
  go_enter Tryz.func107,Tryz.ntmps107
  go_wp2_with fail
  refine Hc.out.mono ?_
  rintro e w1 ⟨rfl,h1,h2⟩
  have H1:=Lh h1;have H2:=Lh h2
  clear h1 h2
  go_wp2_with fail
  go_ret
  rw[HR.out]
  exact ⟨_,rfl,rfl,H1.out,H2.out⟩
 | none=>
  rw[hf] at Hc hR
  have HR:=Lh hR
  clear hR hf
  go_enter Tryz.func107,Tryz.ntmps107
  go_wp2_with fail
  refine Hc.out.mono ?_
  rintro e w1 ⟨rfl,h1,h2⟩
  have H2:=Lh h2
  have Hf:=Lh (sFail g B l last 100 w1 h1)
  clear h1 h2
  go_wp2_with fail
  refine Hf.out.mono ?_
  rintro e w2 ⟨he,rfl⟩
  unfold FailS at he
  subst he
  exact ⟨rfl,by rw [HR.out];exact ⟨rfl,H2.out⟩⟩
end Go.Proofs.YtjonaidancomgaaGreatDoor
