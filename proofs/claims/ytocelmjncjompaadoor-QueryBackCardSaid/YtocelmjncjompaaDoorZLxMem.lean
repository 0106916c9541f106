/- Parts of the proof, joined into one text: LxMem, LxD, LxE. -/
import Derived.Test.YtocelmjncjompaaDoorZLxA
import Derived.BigQuiet
import Derived.Deep.QuietTactic
import Derived.Deep.RegionHeld3
import Derived.Deep.AppendLies
import Derived.Deep.RegionLaw

namespace Go.Proofs.YtocelmjncjompaaDoor
open Go.RowKit
open Lx (Tok)

/-- Byte strings as the model has them. -/
def Lx.bs (l : List UInt8) : ByteArray := ⟨l.toArray⟩
theorem Lx.bs_size (l : List UInt8) : (Lx.bs l).size = l.length := by rw [← Lx.ba_len]; simp [Lx.bs]
theorem Lx.bs_list (l : List UInt8) : (Lx.bs l).data.toList = l := by simp [Lx.bs]
theorem Lx.bs_of (s : ByteArray) : Lx.bs s.data.toList = s := by cases s; simp [Lx.bs]
theorem Lx.bs_of' {s : ByteArray} {l : List UInt8} (h : s.data.toList = l) : s = Lx.bs l := by rw [← h, Lx.bs_of]

/-- Cell b, o and the three behind it hold a token. -/
structure TokAt (w : World) (b o : Nat) (t : Tok) : Prop where
  kind : w.cell? ⟨b, o, none⟩ = some (.int .i64 t.kind)
  text : w.cell? ⟨b, o + 1, none⟩ = some (.string (Lx.bs t.text))
  n : w.cell? ⟨b, o + 2, none⟩ = some (.int .i64 t.n)
  pos : w.cell? ⟨b, o + 3, none⟩ = some (.int .i64 t.pos)

/-- A slice's address, below block B, from which on the tokens of l lie. -/
structure Toks (w : World) (B : Nat) (A : Option Addr) (l : List Tok) : Prop where
  at_ : ∀ k t, l[k]? = some t → ∃ b o, A = some ⟨b, o, none⟩ ∧ b < B ∧ TokAt w b (o + k * 4) t
  len : l.length ≤ 3518437208883
  texts : ∀ t ∈ l, t.text.length ≤ 140737488351232

theorem TokAt.cells {w w' : World} {b o : Nat} {t : Tok} (h : TokAt w b o t) (hc : ∀ i, w'.cell? ⟨b, i, none⟩ = w.cell? ⟨b, i, none⟩) : TokAt w' b o t :=
  ⟨(hc _).trans h.kind, (hc _).trans h.text, (hc _).trans h.n, (hc _).trans h.pos⟩
theorem Toks.below {w w' : World} {B B' : Nat} {A : Option Addr} {l : List Tok} (h : Toks w B A l) (hb : Below B' w w') (hB : B ≤ B') : Toks w' B A l :=
  ⟨fun k t ht => by
    obtain ⟨b, o, e, hlt, h4⟩ := h.at_ k t ht
    exact ⟨b, o, e, hlt, h4.cells fun i => hb.cell (p := ⟨b, i, none⟩) (show b < B' by omega)⟩, h.len, h.texts⟩
theorem Toks.mono {w : World} {B B' : Nat} {A : Option Addr} {l : List Tok} (h : Toks w B A l) (hB : B ≤ B') : Toks w B' A l :=
  ⟨fun k t ht => by
    obtain ⟨b, o, e, hlt, h4⟩ := h.at_ k t ht
    exact ⟨b, o, e, by omega, h4⟩, h.len, h.texts⟩
theorem Toks.drewN {w : World} {B : Nat} {A : Option Addr} {l : List Tok} (h : Toks w B A l) (n : Nat) : Toks (w.drewN n) B A l := ⟨fun k t ht => by
    obtain ⟨b, o, e, hlt, h4⟩ := h.at_ k t ht
    exact ⟨b, o, e, by omega, ⟨h4.kind, h4.text, h4.n, h4.pos⟩⟩, h.len, h.texts⟩
theorem Toks.nil (w : World) (B : Nat) (A : Option Addr) : Toks w B A [] := ⟨fun k t h => by simp at h, by simp, fun t h => by simp at h⟩

/-- Few tokens, as the reference counts (its sum may wrap). -/
def Lx.fs (l : List Tok) : Int := l.foldl (fun n t => wrap64 (n + (t.text.length : Int))) 0
def Lx.few (l : List Tok) : Bool := decide ((l.length : Int) ≤ 200) && decide (Lx.fs l ≤ 2000)
theorem Lx.fs_snoc (l : List Tok) (k : Nat) (t : Tok) (h : l[k]? = some t) : Lx.fs (l.take (k + 1)) = wrap64 (Lx.fs (l.take k) + (t.text.length : Int)) := by
  unfold Lx.fs
  rw [List.take_add_one, h]
  simp [List.foldl_append]

set_option maxHeartbeats 400000 in
theorem rFew (A : Option Addr) (c : Nat) (l : List Tok) (w : World) (h : Toks w w.heap.size A l) :
    Calls Tryd.prog 18 #[.slice A l.length c] w fun e w' => e = .returned (.bool (Lx.few l)) ∧ w = w' := by
  have hlen := h.len
  go_enter Tryd.func18, Tryd.ntmps18
  go_wp2
  go_loop [3, 4] (fun n i => ∃ k : Nat, k ≤ l.length ∧ i = .int .i64 k ∧ n = .int .i64 (Lx.fs (l.take k))) (fun _ i => l.length - (intOf i).toNat)
  case atStart => exact ⟨0, by omega, rfl, rfl⟩
  case round =>
    obtain ⟨k, hk, rfl, rfl⟩ := hrel
    by_cases hlt : k < l.length
    · obtain ⟨b, o, rfl, hb, h4⟩ := h.at_ k l[k] (List.getElem?_eq_getElem hlt)
      obtain ⟨t, ht⟩ : ∃ t, t = l[k] := ⟨_, rfl⟩
      rw [← ht] at h4
      have htk : l[k]? = some t := by rw [ht, List.getElem?_eq_getElem hlt]
      clear ht
      have Hs := Lib.hid (Lx.fs_snoc l k t htk); clear htk
      obtain ⟨q1, q2, q3, q4⟩ := h4
      obtain ⟨F, hF⟩ : ∃ F, F = Lx.fs (l.take k) := ⟨_, rfl⟩
      rw [← hF] at Hs ⊢
      clear hF
      go_wp2
      go_round
      case rel => exact ⟨k + 1, by omega, by go_num, by rw [Hs.out, Lx.bs_size]⟩
      case measure => simp [intOf]; omega
    · obtain rfl : k = l.length := by omega
      rw [List.take_length]
      by_cases h200 : (l.length : Int) ≤ 200
      all_goals
        go_wp2
        go_ret
        exact ⟨ret_bool (by unfold Lx.few; simp <;> omega), rfl⟩

theorem Lx.same1_iff (a b : Tok) : Lx.same1 a b = (a.kind == b.kind && a.text == b.text && a.n == b.n) := rfl
theorem Lx.same_len (a b : List Tok) (h : Lx.same a b = true) : a.length = b.length := by
  induction a generalizing b with
  | nil => cases b <;> simp_all [Lx.same]
  | cons x r ih =>
    cases b with
    | nil => simp [Lx.same] at h
    | cons y s => simp only [Lx.same, Bool.and_eq_true] at h; simp [ih s h.2]
theorem Lx.same_ne (a b : List Tok) (h : a.length ≠ b.length) : Lx.same a b = false := by
  cases hs : Lx.same a b
  · rfl
  · exact absurd (Lx.same_len a b hs) h
theorem Lx.same_bad (a b : List Tok) (k : Nat) (x y : Tok) (hx : a[k]? = some x) (hy : b[k]? = some y) (h : Lx.same1 x y = false) : Lx.same a b = false := by
  induction a generalizing b k with
  | nil => simp at hx
  | cons u r ih =>
    cases b with
    | nil => simp at hy
    | cons v s =>
      cases k with
      | zero => simp at hx hy; subst hx; subst hy; simp [Lx.same, h]
      | succ k => simp only [List.getElem?_cons_succ] at hx hy; simp [Lx.same, ih s k hx hy]
theorem Lx.same_all (a b : List Tok) (hl : a.length = b.length) (h : ∀ (k : Nat) (x y : Tok), a[k]? = some x → b[k]? = some y → Lx.same1 x y = true) : Lx.same a b = true := by
  induction a generalizing b with
  | nil => cases b <;> simp_all [Lx.same]
  | cons u r ih =>
    cases b with
    | nil => simp at hl
    | cons v s =>
      simp only [Lx.same, Bool.and_eq_true]
      exact ⟨h 0 u v rfl rfl, ih s (by simpa using hl) fun k x y hx hy => h (k + 1) x y (by simpa using hx) (by simpa using hy)⟩
theorem Lx.bs_beq (a b : List UInt8) : ((Lx.bs a).toList == (Lx.bs b).toList) = (a == b) := by
  rw [ByteArray.toList_eq, ByteArray.toList_eq, Lx.bs_list, Lx.bs_list]

set_option maxHeartbeats 800000 in
theorem rSame (A A' : Option Addr) (c c' : Nat) (l l' : List Tok) (w : World) (h : Toks w w.heap.size A l) (h' : Toks w w.heap.size A' l') :
    Calls Tryd.prog 22 #[.slice A l.length c, .slice A' l'.length c'] w fun e w' => e = .returned (.bool (Lx.same l l')) ∧ ∃ n, w' = w.drewN n := by
  have hlen := h.len
  have hlen' := h'.len
  by_cases hll : l.length = l'.length
  case neg =>
    have hne : ((l.length : Int) != (l'.length : Int)) = true := by rw [bne_iff_ne]; omega
    rw [Lx.same_ne l l' hll]
    have Hll := Lib.hid hll; clear hll
    go_enter Tryd.func22, Tryd.ntmps22
    go_wp2
    go_ret
    exact ⟨rfl, 0, rfl⟩
  have Hll := Lib.hid hll
  obtain ⟨m, hm⟩ : ∃ m, m = l'.length := ⟨_, rfl⟩
  rw [← hm] at hll ⊢
  rw [hll]
  have hml : m ≤ 3518437208883 := by omega
  have hlm : l.length ≤ m := by omega
  have hml' : l'.length ≤ m := by omega
  have hlm2 : m ≤ l.length := by omega
  have hlm3 : m ≤ l'.length := by omega
  clear hll hm hlen hlen'
  go_enter Tryd.func22, Tryd.ntmps22
  go_wp2
  go_loopw [5] (fun i wr => ∃ k n : Nat, k ≤ m ∧ i = .int .i64 k ∧ wr = w.drewN n ∧ ∀ (j : Nat) (x y : Tok), j < k → l[j]? = some x → l'[j]? = some y → Lx.same1 x y = true) (fun i _ => m - (intOf i).toNat)
  case atStart => exact ⟨0, 0, by omega, rfl, rfl, fun j x y hj => absurd hj (by omega)⟩
  case round =>
    obtain ⟨k, n, hk, rfl, rfl, hh⟩ := hrel
    have Hh := Lib.hid hh; clear hh
    by_cases hlt : k < m
    · obtain ⟨b, o, rfl, hb, h4⟩ := h.at_ k l[k] (List.getElem?_eq_getElem (by omega))
      obtain ⟨x, hx⟩ : ∃ x, l[k]? = some x := ⟨_, List.getElem?_eq_getElem (by omega)⟩
      rw [show l[k] = x from by have := List.getElem?_eq_getElem (l := l) (i := k) (by omega); rw [hx] at this; injection this with this; exact this.symm] at h4
      obtain ⟨b', o', rfl, hb', h4'⟩ := h'.at_ k l'[k] (List.getElem?_eq_getElem (by omega))
      obtain ⟨y, hy⟩ : ∃ y, l'[k]? = some y := ⟨_, List.getElem?_eq_getElem (by omega)⟩
      rw [show l'[k] = y from by have := List.getElem?_eq_getElem (l := l') (i := k) (by omega); rw [hy] at this; injection this with this; exact this.symm] at h4'
      have Hx := Lib.hid hx; have Hy := Lib.hid hy
      clear hx hy
      obtain ⟨p1, p2, p3, p4⟩ := h4
      obtain ⟨q1, q2, q3, q4⟩ := h4'
      have hs := Lx.same1_iff x y
      rw [← Lx.bs_beq] at hs
      cases e1 : x.kind == y.kind
      · have e1' : (x.kind != y.kind) = true := by simp [bne, e1]
        rw [e1] at hs
        have Hs := Lib.hid hs; clear hs
        go_wp2
        go_quiet (fail)
        go_wp2
        go_ret
        exact ⟨ret_bool (Lx.same_bad l l' k x y Hx.out Hy.out (by rw [Hs.out]; rfl)).symm, _, World.drewN_drewN _ _ _⟩
      · have e1' : (x.kind != y.kind) = false := by simp [bne, e1]
        rw [e1] at hs
        cases e2 : (Lx.bs x.text).toList == (Lx.bs y.text).toList
        · rw [e2] at hs
          have Hs := Lib.hid hs; clear hs
          go_wp2
          go_quiet (fail)
          go_wp2
          go_ret
          exact ⟨ret_bool (Lx.same_bad l l' k x y Hx.out Hy.out (by rw [Hs.out]; rfl)).symm, _, World.drewN_drewN _ _ _⟩
        · rw [e2] at hs
          cases e3 : x.n == y.n
          · have e3' : (x.n != y.n) = true := by simp [bne, e3]
            rw [e3] at hs
            have Hs := Lib.hid hs; clear hs
            go_wp2
            go_quiet (fail)
            go_wp2
            go_ret
            exact ⟨ret_bool (Lx.same_bad l l' k x y Hx.out Hy.out (by rw [Hs.out]; rfl)).symm, _, World.drewN_drewN _ _ _⟩
          · have e3' : (x.n != y.n) = false := by simp [bne, e3]
            rw [e3] at hs
            have Hs := Lib.hid hs; clear hs
            go_wp2
            go_quiet (fail)
            go_wp2
            go_roundw
            case rel =>
              refine ⟨k + 1, _, by omega, by go_num, rfl, fun j u v hj hu hv => ?_⟩
              rcases Nat.lt_or_ge j k with hjk | hjk
              · exact Hh.out j u v hjk hu hv
              · obtain rfl : j = k := by omega
                rw [Hx.out] at hu; rw [Hy.out] at hv
                obtain rfl := Option.some.inj hu
                obtain rfl := Option.some.inj hv
                rw [Hs.out]; rfl
            case measure => simp [intOf]; omega
    · obtain rfl : k = m := by omega
      go_wp2
      go_ret
      exact ⟨ret_bool (Lx.same_all l l' Hll.out fun j x y hx hy => Hh.out j x y (by have := (List.getElem?_eq_some_iff.1 hx).1; omega) hx hy).symm, _, rfl⟩

theorem Lx.eq_not_same (a b : List Tok) (h : Lx.same a b = false) : decide (a = b) = false := by
  refine decide_eq_false fun e => ?_
  subst e
  have : Lx.same a a = true := Lx.same_all a a rfl fun k x y hx hy => by
    rw [hx] at hy; obtain rfl := Option.some.inj hy; simp [Lx.same1]
  rw [this] at h; cases h

theorem Lx.eq_of_same : ∀ (a b : List Tok), Lx.same a b = true → (∀ (j : Nat) (x y : Tok), a[j]? = some x → b[j]? = some y → x.pos = y.pos) → a = b
  | [], [], _, _ => rfl
  | [], _ :: _, h, _ => by simp [Lx.same] at h
  | _ :: _, [], h, _ => by simp [Lx.same] at h
  | x :: r, y :: s, h, hp => by
    simp only [Lx.same, Bool.and_eq_true, Lx.same1, beq_iff_eq] at h
    have h0 := hp 0 x y rfl rfl
    have hr := Lx.eq_of_same r s h.2 fun j u v hu hv => hp (j + 1) u v (by simpa using hu) (by simpa using hv)
    obtain ⟨⟨⟨h1, h2⟩, h3⟩, _⟩ := h
    subst hr
    cases x; cases y; simp_all

set_option maxHeartbeats 800000 in
theorem rEqual (A A' : Option Addr) (c c' : Nat) (l l' : List Tok) (w : World) (h : Toks w w.heap.size A l) (h' : Toks w w.heap.size A' l') :
    Calls Tryd.prog 17 #[.slice A l.length c, .slice A' l'.length c'] w fun e w' => e = .returned (.bool (decide (l = l'))) ∧ ∃ n, w' = w.drewN n := by
  have hsame := rSame A A' c c' l l' w h h'
  have Hsame := Lib.hid hsame; clear hsame
  cases hb : Lx.same l l'
  · rw [Lx.eq_not_same l l' hb]
    go_enter Tryd.func17, Tryd.ntmps17
    go_wp2_with (go_at_call 22; refine (Hsame.out).mono ?_; rintro e w' ⟨rfl, n, rfl⟩)
    go_ret
    exact ⟨rfl, _, rfl⟩
  have hlen := h.len
  have hlen' := h'.len
  have hll := Lx.same_len l l' hb
  have Hb := Lib.hid hb; clear hb
  have Hll := Lib.hid hll
  have Hll2 := Lib.hid hll
  obtain ⟨m, hm⟩ : ∃ m, m = l'.length := ⟨_, rfl⟩
  have Hm := Lib.hid hm
  rw [← hm] at hll ⊢
  rw [hll]
  have hml : m ≤ 3518437208883 := by omega
  have hlm : l.length ≤ m := by omega
  have hml' : l'.length ≤ m := by omega
  have hlm2 : m ≤ l.length := by omega
  have hlm3 : m ≤ l'.length := by omega
  have Hsame2 : Hid (Calls Tryd.prog 22 #[.slice A m c, .slice A' m c'] w fun e w' => e = .returned (.bool true) ∧ ∃ n, w' = w.drewN n) := by
    have := Hsame.out
    rw [Hll2.out, Hb.out, ← Hm.out] at this
    exact Lib.hid this
  clear hll hm hlen hlen'
  go_enter Tryd.func17, Tryd.ntmps17
  go_wp2_with (go_at_call 22; refine (Hsame2.out).mono ?_; rintro e w' ⟨rfl, n0, rfl⟩)
  go_loopw [5] (fun i wr => ∃ k n : Nat, k ≤ m ∧ i = .int .i64 k ∧ wr = w.drewN n ∧ ∀ (j : Nat) (x y : Tok), j < k → l[j]? = some x → l'[j]? = some y → x.pos = y.pos) (fun i _ => m - (intOf i).toNat)
  case atStart => exact ⟨0, n0, by omega, rfl, rfl, fun j x y hj => absurd hj (by omega)⟩
  case round =>
    obtain ⟨k, n, hk, rfl, rfl, hh⟩ := hrel
    have Hh := Lib.hid hh; clear hh
    by_cases hlt : k < m
    · obtain ⟨b, o, rfl, hb, h4⟩ := h.at_ k l[k] (List.getElem?_eq_getElem (by omega))
      obtain ⟨x, hx⟩ : ∃ x, l[k]? = some x := ⟨_, List.getElem?_eq_getElem (by omega)⟩
      rw [show l[k] = x from by have := List.getElem?_eq_getElem (l := l) (i := k) (by omega); rw [hx] at this; injection this with this; exact this.symm] at h4
      obtain ⟨b', o', rfl, hb', h4'⟩ := h'.at_ k l'[k] (List.getElem?_eq_getElem (by omega))
      obtain ⟨y, hy⟩ : ∃ y, l'[k]? = some y := ⟨_, List.getElem?_eq_getElem (by omega)⟩
      rw [show l'[k] = y from by have := List.getElem?_eq_getElem (l := l') (i := k) (by omega); rw [hy] at this; injection this with this; exact this.symm] at h4'
      have Hx := Lib.hid hx; have Hy := Lib.hid hy
      clear hx hy
      obtain ⟨p1, p2, p3, p4⟩ := h4
      obtain ⟨q1, q2, q3, q4⟩ := h4'
      cases e1 : x.pos == y.pos
      · have e1' : (x.pos != y.pos) = true := by simp [bne, e1]
        have e1n := Lib.hid e1; clear e1
        go_wp2
        go_quiet (fail)
        go_wp2
        go_ret
        refine ⟨ret_bool (decide_eq_false fun e => ?_).symm, _, World.drewN_drewN _ _ _⟩
        have hx := Hx.out
        rw [e, Hy.out] at hx
        obtain rfl := Option.some.inj hx
        have := e1n.out
        simp at this
      · have e1' : (x.pos != y.pos) = false := by simp [bne, e1]
        have e1n := Lib.hid e1; clear e1
        go_wp2
        go_quiet (fail)
        go_wp2
        go_roundw
        case rel =>
          refine ⟨k + 1, _, by omega, by go_num, rfl, fun j u v hj hu hv => ?_⟩
          rcases Nat.lt_or_ge j k with hjk | hjk
          · exact Hh.out j u v hjk hu hv
          · obtain rfl : j = k := by omega
            rw [Hx.out] at hu; rw [Hy.out] at hv
            obtain rfl := Option.some.inj hu
            obtain rfl := Option.some.inj hv
            exact eq_of_beq e1n.out
        case measure => simp [intOf]; omega
    · obtain rfl : k = m := by omega
      go_wp2
      go_ret
      exact ⟨ret_bool (decide_eq_true (Lx.eq_of_same l l' Hb.out fun j x y hx hy => Hh.out j x y (by have := (List.getElem?_eq_some_iff.1 hx).1; omega) hx hy)).symm, _, rfl⟩
end Go.Proofs.YtocelmjncjompaaDoor

namespace Go.Proofs.YtocelmjncjompaaDoor
open Go.RowKit
open Lx (Tok)

/-- How many bytes at the head of a list are of some classes. -/
def Lx.runLen (zs : List Int) (l : List UInt8) : Nat := (l.takeWhile fun c => zs.contains (Lx.cls c)).length
theorem Lx.tw_len (p : UInt8 → Bool) : ∀ (l : List UInt8) (k : Nat), k ≤ l.length → (∀ j (h : j < l.length), j < k → p l[j] = true) → (∀ h : k < l.length, p l[k] = false) → (l.takeWhile p).length = k
  | [], k, hk, _, _ => by simp at hk; simp [hk]
  | c :: r, 0, _, _, h => by
    have h0 : p c = false := h (by simp)
    simp [h0]
  | c :: r, k + 1, hk, ha, h => by
    have h0 : p c = true := ha 0 (by simp) (by omega)
    simp only [List.takeWhile_cons, h0, if_true, List.length_cons]
    rw [Lx.tw_len p r k (by simpa using hk) (fun j hj hjk => ha (j + 1) (by simpa using hj) (by omega)) (fun hh => h (by simpa using hh))]
theorem Lx.run_end (zs : List Int) (s : ByteArray) (a n : Nat) (han : a ≤ n) (hn : n ≤ s.size) (h1 : ∀ j (h : j < s.size), a ≤ j → j < n → zs.contains (Lx.cls s[j]) = true) (h2 : ∀ h : n < s.size, zs.contains (Lx.cls s[n]) = false) :
    a + Lx.runLen zs (s.data.toList.drop a) = n := by
  unfold Lx.runLen
  have hl := Lx.ba_len s
  rw [Lx.tw_len _ _ (n - a) (by rw [List.length_drop]; omega)]
  · omega
  · intro j hj hjn
    rw [List.length_drop] at hj
    rw [List.getElem_drop]
    exact h1 (a + j) (by omega) (by omega) (by omega)
  · intro hj
    rw [List.length_drop] at hj
    rw [List.getElem_drop]
    have := h2 (by omega)
    simp only [show a + (n - a) = n by omega]
    exact this

set_option maxHeartbeats 800000 in
theorem lRun (g bz a c : Nat) (src : ByteArray) (zs : List Int) (w : World) (hg0 : w.cell? ⟨g, 0, none⟩ = some (.string src)) (hg1 : w.cell? ⟨g, 1, none⟩ = some (.int .i64 a))
    (hz : ∀ j, j < zs.length → w.cell? ⟨bz, 0 + j, none⟩ = some (.int .i64 (zs.getD j 0))) (hzl : zs.length ≤ 100) (ha : a ≤ src.size) (hs : src.size ≤ 65536) :
    Calls Tryd.prog 68 #[.pointer (some ⟨g, 0, none⟩), .slice (some ⟨bz, 0, none⟩) zs.length c] w fun e w' =>
      e = .returned (.string (src.extract a (a + Lx.runLen zs (src.data.toList.drop a)))) ∧ ∃ n, w' = w.drewN n := by
  have Hz := Lib.hid hz; clear hz
  go_enter Tryd.func68, Tryd.ntmps68
  go_wp2
  go_loop [5] (fun i => ∃ n : Nat, n ≤ src.size ∧ i = .int .i64 n ∧ a ≤ n ∧ ∀ j (h : j < src.size), a ≤ j → j < n → zs.contains (Lx.cls src[j]) = true) (fun i => src.size - (intOf i).toNat)
  case atStart => exact ⟨a, by omega, rfl, by omega, fun j h1 h2 h3 => absurd h2 (by omega)⟩
  case round =>
    obtain ⟨n, hn, rfl, han, hh⟩ := hrel
    have Hh := Lib.hid hh; clear hh
    by_cases hlt : n < src.size
    · have hcon := cContainsInt bz 0 zs.length c zs (Lx.cls src[n]) w (Nat.le_refl _) (by omega) Hz.out
      rw [List.take_length] at hcon
      have Hcon := Lib.hid hcon; clear hcon
      cases hc : zs.contains (Lx.cls src[n])
      · rw [hc] at Hcon
        go_wp2_with (first | (go_at_call 40; refine (lClass _ _).mono ?_; rintro e w' ⟨rfl, rfl⟩) | (go_at_call 91; refine (Hcon.out).mono ?_; rintro e w' ⟨rfl, rfl⟩))
        go_quiet (fail)
        go_wp2
        go_ret
        exact ⟨congrArg Ending.returned (congrArg Value.string (by rw [Lx.run_end zs src a n han hn Hh.out fun _ => hc])), _, rfl⟩
      · rw [hc] at Hcon
        go_wp2_with (first | (go_at_call 40; refine (lClass _ _).mono ?_; rintro e w' ⟨rfl, rfl⟩) | (go_at_call 91; refine (Hcon.out).mono ?_; rintro e w' ⟨rfl, rfl⟩))
        go_round
        case rel =>
          refine ⟨n + 1, by omega, by go_num, by omega, fun j hj haj hjn => ?_⟩
          rcases Nat.lt_or_ge j n with h | h
          · exact Hh.out j hj haj h
          · obtain rfl : j = n := by omega
            exact hc
        case measure => simp [intOf]; omega
    · go_wp2
      go_quiet (fail)
      go_wp2
      go_ret
      exact ⟨congrArg Ending.returned (congrArg Value.string (by rw [Lx.run_end zs src a n han hn Hh.out fun h => absurd h hlt])), _, rfl⟩
end Go.Proofs.YtocelmjncjompaaDoor

namespace Go.Proofs.YtocelmjncjompaaDoor
open Go.RowKit
open Lx (Tok)

/-- Block g is known whole, and none of it is frozen. -/
def Blk (w : World) (g : Nat) (t : TypeId) (cs : Array Value) : Prop := w.heap[g]? = some (.cells cs t (0, 0))
section
variable {w w' : World} {g : Nat} {t : TypeId} {cs : Array Value}
theorem Blk.lt (h : Blk w g t cs) : g < w.heap.size := by
  rcases Nat.lt_or_ge g w.heap.size with hlt | hge
  · exact hlt
  · unfold Blk at h; rw [Array.getElem?_eq_none hge] at h; cases h
theorem Blk.cell (h : Blk w g t cs) (i : Nat) : w.cell? ⟨g, i, none⟩ = cs[i]? := cell_of_row w g i cs t (0, 0) h
theorem Blk.free (h : Blk w g t cs) (i : Nat) : w.frozen? ⟨g, i, none⟩ = false := by
  unfold Blk at h
  simp [World.frozen?, h]
theorem Blk.new (w : World) (t : TypeId) (cs : Array Value) : Blk (w.alloc (.cells cs t)) w.heap.size t cs := heap_alloc_new w _
theorem Blk.drew (h : Blk w g t cs) : Blk w.drew g t cs := h
theorem Blk.drewN (h : Blk w g t cs) (n : Nat) : Blk (w.drewN n) g t cs := h
theorem Blk.alloc (h : Blk w g t cs) (o : Obj) : Blk (w.alloc o) g t cs := (Below.heap_alloc w o g h.lt).trans h
theorem Blk.set (h : Blk w g t cs) (i : Nat) (u : Value) : Blk (w.setCell ⟨g, i, none⟩ u) g t (cs.setIfInBounds i u) := by
  unfold Blk at h ⊢
  simp [World.setCell, Array.getElem?_modify, h]
theorem Blk.far (h : Blk w g t cs) {p : Addr} (hp : g ≠ p.block) (u : Value) : Blk (w.setCell p u) g t cs := (Below.heap_setCell w p u g hp).trans h
theorem Blk.below {B : Nat} (h : Blk w g t cs) (hb : Below B w w') (hg : g < B) : Blk w' g t cs := (hb.block g hg).trans h
theorem Blk.grown {row : Option Nat} (h : Blk w g t cs) (hb : w.grownBy w' row) (hg : row ≠ some g) : Blk w' g t cs := (hb.block g h.lt (fun e => hg e.symm)).trans h
theorem Blk.ne {g' : Nat} {t' : TypeId} {cs' : Array Value} (h : Blk w g t cs) (h' : Blk w g' t' cs') (hne : t ≠ t') : g ≠ g' := by
  rintro rfl
  unfold Blk at h h'
  rw [h] at h'
  injection h' with h'
  injection h' with _ ht
  exact hne ht
theorem own_ne {base : Nat} {e : TypeId} {size n : Nat} {v : Value} {xs : List Value} (h : w.ownsRow base e size v n xs) (hg : Blk w g t cs) (hne : e ≠ t) : v.ownBlock ≠ some g := by
  rcases h.2 with ⟨rfl, _⟩ | ⟨g', cap, cur, rfl, _, hh, _⟩
  · simp [Value.ownBlock]
  · intro he
    have : g' = g := by simpa [Value.ownBlock] using he
    subst this
    exact Blk.ne (t := e) hh hg hne rfl
end
/-- What a value owns stays owned in a world whose blocks below B are as they were. -/
theorem own_below {w w' : World} {base : Nat} {e : TypeId} {size n : Nat} {v : Value} {xs : List Value} (h : w.ownsRow base e size v n xs) (hb : Below w.heap.size w w') : w'.ownsRow base e size v n xs := by
  obtain ⟨h1, h2⟩ := h
  refine ⟨h1, ?_⟩
  rcases h2 with h2 | ⟨g, cap, cur, hv, hg, hh, r⟩
  · exact .inl h2
  · refine .inr ⟨g, cap, cur, hv, hg, ?_, r⟩
    have hlt : g < w.heap.size := by
      rcases Nat.lt_or_ge g w.heap.size with hlt | hge
      · exact hlt
      · rw [Array.getElem?_eq_none hge] at hh; cases hh
    exact (hb.block g hlt).trans hh
theorem own_setCell_far {w : World} {base : Nat} {e : TypeId} {size n : Nat} {v : Value} {xs : List Value} (h : w.ownsRow base e size v n xs) {p : Addr} (hp : v.ownBlock ≠ some p.block) (u : Value) : (w.setCell p u).ownsRow base e size v n xs := by
  obtain ⟨h1, h2⟩ := h
  refine ⟨h1, ?_⟩
  rcases h2 with h2 | ⟨g, cap, cur, hv, hg, hh, r⟩
  · exact .inl h2
  · exact .inr ⟨g, cap, cur, hv, hg, by
      rw [Below.heap_setCell _ _ _ _ (by intro e; exact hp (by rw [hv, ← e]; rfl))]; exact hh, r⟩

theorem own_lt {w : World} {base : Nat} {e : TypeId} {size n : Nat} {v : Value} {xs : List Value} (h : w.ownsRow base e size v n xs) {b : Nat} (hb : v.ownBlock = some b) : b < w.heap.size := by
  rcases h.2 with ⟨rfl, _⟩ | ⟨g, cap, cur, rfl, _, hh, _⟩
  · cases hb
  · have : g = b := by simpa [Value.ownBlock] using hb
    subst this
    rcases Nat.lt_or_ge g w.heap.size with hlt | hge
    · exact hlt
    · rw [Array.getElem?_eq_none hge] at hh; cases hh

theorem Tryd.infoTok : (Tryd.prog.info? 35).map (fun i => (i.zero, i.size, i.bytes)) = some (some (.agg #[.int .i64 0, .string ⟨#[]⟩, .int .i64 0, .int .i64 0]), 4, 40) := by kernel_rfl

theorem own_ge {w : World} {base : Nat} {e : TypeId} {size n : Nat} {v : Value} {xs : List Value} (h : w.ownsRow base e size v n xs) {b : Nat} (hb : v.ownBlock = some b) : base ≤ b := by
  rcases h.2 with ⟨rfl, _⟩ | ⟨g, cap, cur, rfl, hg, hh, _⟩
  · cases hb
  · have : g = b := by simpa [Value.ownBlock] using hb
    omega
theorem add_end {g m a t gg cap : Nat} {src : ByteArray} {v : Value} {o : Obj} {xs : List Value} {w w2 w3 : World} (hg : g ≤ w2.heap.size) (hbel : Below g w w2) (hgrow : (w2.alloc o).drew.grownBy w3 v.ownBlock)
    (hb3 : Blk w3 g 63 #[.string src, .int .i64 a, v]) (hown : w3.ownsRow g 35 4 (.slice (some ⟨gg, 0, none⟩) (m + 1) cap) (m + 1) xs) (_hvg : v.ownBlock ≠ some g)
    {ys : List Value} (hownv : w2.ownsRow g 35 4 v m ys) :
    Blk ((w3.setCell ⟨g, 2, none⟩ (.slice (some ⟨gg, 0, none⟩) (m + 1) cap)).setCell ⟨g, 1, none⟩ (.int .i64 ((a : Int) + (t : Int)))) g 63 #[.string src, .int .i64 ((a + t : Nat) : Int), .slice (some ⟨gg, 0, none⟩) (m + 1) cap] ∧
    ((w3.setCell ⟨g, 2, none⟩ (.slice (some ⟨gg, 0, none⟩) (m + 1) cap)).setCell ⟨g, 1, none⟩ (.int .i64 ((a : Int) + (t : Int)))).ownsRow g 35 4 (.slice (some ⟨gg, 0, none⟩) (m + 1) cap) (m + 1) xs ∧
    Below g w ((w3.setCell ⟨g, 2, none⟩ (.slice (some ⟨gg, 0, none⟩) (m + 1) cap)).setCell ⟨g, 1, none⟩ (.int .i64 ((a : Int) + (t : Int)))) := by
  have hne := own_ne hown hb3 (by decide)
  refine ⟨?_, ?_, ?_⟩
  · have := (hb3.set 2 (.slice (some ⟨gg, 0, none⟩) (m + 1) cap)).set 1 (.int .i64 ((a : Int) + (t : Int)))
    simpa using this
  · exact own_setCell_far (own_setCell_far hown hne _) hne _
  · refine (Below.setCell (Below.setCell ?_ (show g ≤ (⟨g, 2, none⟩ : Addr).block from Nat.le_refl g) _) (show g ≤ (⟨g, 1, none⟩ : Addr).block from Nat.le_refl g) _)
    refine hbel.trans ?_
    refine Below.grown (((Below.refl _ _).alloc hg o).drew) hgrow (by simp; omega) ?_
    intro k hk
    exact own_ge hownv hk

set_option maxHeartbeats 1000000 in
theorem lAddOk (g a m : Nat) (src text s : ByteArray) (k n p : Int) (v : Value) (xs : List Value) (w : World)
    (hblk : Blk w g 63 #[.string src, .int .i64 a, v]) (hown : w.ownsRow g 35 4 v m xs) (hm : m ≤ 65536) (ha : a + text.size ≤ 65536) (hs : s.size ≤ maxLen)
    (hv : Lx.valid ⟨k, s.data.toList, n, p⟩ = true) :
    Calls Tryd.prog 69 #[.pointer (some ⟨g, 0, none⟩), .string text, .agg #[.int .i64 k, .string s, .int .i64 n, .int .i64 p]] w fun e w' =>
      e = .returned (.tuple #[]) ∧ ∃ v', Blk w' g 63 #[.string src, .int .i64 (a + text.size : Nat), v'] ∧ w'.ownsRow g 35 4 v' (m + 1) (xs ++ [.int .i64 k, .string s, .int .i64 n, .int .i64 a]) ∧ Below g w w' := by
  obtain ⟨i0, hi0, hz0, hz1, hz2⟩ := info_parts Tryd.infoTok
  have hlt := hblk.lt
  have hval := lValid k n p s (w.alloc (.cells #[.int .i64 k, .string s, .int .i64 n, .int .i64 p] 35)) hs
  rw [hv] at hval
  have Hval := Lib.hid hval
  clear hval hv
  have Hblk := Lib.hid hblk; clear hblk
  go_enter Tryd.func69, Tryd.ntmps69
  go_wp2_with (go_at_call 46; refine (Hval.out).mono ?_)
  rintro e w1 ⟨rfl, hb⟩
  have hb1 : Blk w1 g 63 #[.string src, .int .i64 a, v] := ((Hblk.out).alloc _).below hb (by simp; omega)
  have hbx : Blk w1 w.heap.size 35 #[.int .i64 k, .string s, .int .i64 n, .int .i64 p] := (Blk.new w _ _).below hb (by simp)
  have hown1 : w1.ownsRow g 35 4 v m xs := own_below (hown.alloc _) hb
  have hsz1 : w.heap.size + 1 ≤ w1.heap.size := by have := hb.size; simpa using this
  have hbel1 : Below g w w1 := ((Below.refl _ _).alloc (by omega) _).trans (hb.mono (by simp; omega))
  have c0 := hb1.cell 0; have c1 := hb1.cell 1; have c2 := hb1.cell 2
  have f1 := hb1.free 1; have f2 := hb1.free 2
  have x0 := hbx.cell 0; have x1 := hbx.cell 1; have x2 := hbx.cell 2; have x3 := hbx.cell 3; have xf := hbx.free 3
  simp at c0 c1 c2 x0 x1 x2 x3
  have Hb := Lib.hid hb; have Hb1 := Lib.hid hb1; have Hbx := Lib.hid hbx; have Hbel1 := Lib.hid hbel1
  clear hb hb1 hbx hbel1
  have hgne : g ≠ w.heap.size := by omega
  go_wp2
  obtain ⟨w2, hw2⟩ : ∃ w2, w2 = w1.setCell ⟨w.heap.size, 3, none⟩ (.int .i64 a) := ⟨_, rfl⟩
  rw [← hw2]
  have hb2 : Blk w2 g 63 #[.string src, .int .i64 a, v] := by rw [hw2]; exact (Hb1.out).far hgne _
  have hbx2 : Blk w2 w.heap.size 35 #[.int .i64 k, .string s, .int .i64 n, .int .i64 a] := by rw [hw2]; exact (Hbx.out).set 3 _
  have hown2 : w2.ownsRow g 35 4 v m xs := by
    rw [hw2]
    refine own_setCell_far hown1 ?_ _
    intro hown0
    have := own_lt hown hown0
    simp at this
  have hbel2 : Below g w w2 := by rw [hw2]; exact (Hbel1.out).setCell (show g ≤ w.heap.size by omega) _
  have hsz2 : w.heap.size + 1 ≤ w2.heap.size := by rw [hw2]; simpa [World.setCell] using hsz1
  clear hw2 c0 c1 c2 f1 f2 x0 x1 x2 x3 xf hown1 hsz1
  have c0 := hb2.cell 0; have c1 := hb2.cell 1; have c2 := hb2.cell 2
  have f1 := hb2.free 1; have f2 := hb2.free 2
  have x0 := hbx2.cell 0; have x1 := hbx2.cell 1; have x2 := hbx2.cell 2; have x3 := hbx2.cell 3
  simp at c0 c1 c2 x0 x1 x2 x3
  have hvg := own_ne hown2 hb2 (by decide)
  have Hb2 := Lib.hid hb2; have Hbx2 := Lib.hid hbx2; have Hbel2 := Lib.hid hbel2
  clear hb2 hbx2 hbel2
  clear w1 Hb Hb1 Hbx Hbel1
  have c2' := ((Hb2.out).alloc (.cells #[.int .i64 k, .string s, .int .i64 n, .int .i64 a] 35)).cell 2
  simp at c2'
  go_region_law (refine step_append_lies _ rfl _ _ _ rfl g 35 i0 _ 4 40 Tryd.underlying23 hi0 hz0 hz1 hz2 rfl (by omega) v m xs rfl ((hown2.alloc _).drew) ⟨w2.heap.size, 0, none⟩ 1 1 [.int .i64 k, .string s, .int .i64 n, .int .i64 a] rfl rfl (World.news_of_block (cs := #[.int .i64 k, .string s, .int .i64 n, .int .i64 a]) (t := 35) (fr := (0, 0)) (heap_alloc_new w2 _)) (by simp [Value.oneCell']) (by omega) (by unfold maxLen; omega) (by omega) (by simp; omega) (w2.heap.size + 1) (by simp) ?_; intro gg cap w3 hown3 hgrow3 hat3 hlt3; have Hb3 := Lib.hid ((((Hb2.out).alloc (.cells #[.int .i64 k, .string s, .int .i64 n, .int .i64 a] 35)).drew).grown hgrow3 hvg); have c3 := Hb3.out.cell 2; have f3 := Hb3.out.free 2; have d3 := Hb3.out.cell 1; have e3 := Hb3.out.free 1; simp at c3 d3)
  all_goals go_wp2
  all_goals go_end0
  all_goals exact ⟨rfl, .slice (some ⟨gg, 0, none⟩) (m + 1) cap, add_end (by omega) Hbel2.out hgrow3 Hb3.out hown3 hvg hown2⟩

/-- How the scanner's functions end where a token is wrong. -/
def PanicAt (a : Nat) (e : Ending) : Prop := e = .panicked [{ v := .iface 56 (.int .i64 a), recovered := false }]

set_option maxHeartbeats 1000000 in
theorem lAddBad (g a : Nat) (src text s : ByteArray) (k n p : Int) (v : Value) (w : World)
    (hblk : Blk w g 63 #[.string src, .int .i64 a, v]) (hs : s.size ≤ maxLen)
    (hv : Lx.valid ⟨k, s.data.toList, n, p⟩ = false) :
    Calls Tryd.prog 69 #[.pointer (some ⟨g, 0, none⟩), .string text, .agg #[.int .i64 k, .string s, .int .i64 n, .int .i64 p]] w fun e w' => PanicAt a e ∧ Below w.heap.size w w' := by
  have hval := lValid k n p s (w.alloc (.cells #[.int .i64 k, .string s, .int .i64 n, .int .i64 p] 35)) hs
  rw [hv] at hval
  have Hval := Lib.hid hval
  clear hval hv
  have hlt := hblk.lt
  have Hblk := Lib.hid hblk; clear hblk
  go_enter Tryd.func69, Tryd.ntmps69
  go_wp2_with (go_at_call 46; refine (Hval.out).mono ?_)
  rintro e w1 ⟨rfl, hb⟩
  have hb1 : Blk w1 g 63 #[.string src, .int .i64 a, v] := ((Hblk.out).alloc _).below hb (by simp; omega)
  have c1 := hb1.cell 1
  simp at c1
  have Hb := Lib.hid hb
  clear hb hb1
  go_wp2
  refine ⟨rfl, rfl, ?_⟩
  exact ((Below.refl _ _).alloc (Nat.le_refl _) _).trans (Hb.out.mono (by simp))

set_option maxHeartbeats 1000000 in
theorem lWrong (g a : Nat) (src : ByteArray) (v : Value) (w : World) (hblk : Blk w g 63 #[.string src, .int .i64 a, v]) :
    Calls Tryd.prog 35 #[.pointer (some ⟨g, 0, none⟩)] w fun e w' => PanicAt a e ∧ w = w' := by
  have c1 := hblk.cell 1
  simp at c1
  go_enter Tryd.func35, Tryd.ntmps35
  go_wp2
  exact ⟨rfl, rfl, rfl⟩
end Go.Proofs.YtocelmjncjompaaDoor
