/- Slices of tokens in memory. -/
import Derived.Test.YtocelmjncjompaaDoorLxLib
import Derived.BigQuiet
import Derived.Deep.QuietTactic
namespace Go.Proofs.YtocelmjncjompaaDoor
open Go.RowKit
open Lx (Tok)

/-- Byte strings as the model has them. -/
def Lx.bs (l : List UInt8) : ByteArray := ⟨l.toArray⟩
theorem Lx.bs_size (l : List UInt8) : (Lx.bs l).size = l.length := by rw [← Lx.ba_len]; simp [Lx.bs]
theorem Lx.bs_list (l : List UInt8) : (Lx.bs l).data.toList = l := by simp [Lx.bs]
theorem Lx.bs_of (s : ByteArray) : Lx.bs s.data.toList = s := by cases s; simp [Lx.bs]
theorem Lx.bs_of' {s : ByteArray} {l : List UInt8} (h : s.data.toList = l) : s = Lx.bs l := by rw [← h, Lx.bs_of]

/-- Cell b, o and the three behind it hold a token. -/
structure TokAt (w : World) (b o : Nat) (t : Tok) : Prop where
  kind : w.cell? ⟨b, o, none⟩ = some (.int .i64 t.kind)
  text : w.cell? ⟨b, o + 1, none⟩ = some (.string (Lx.bs t.text))
  n : w.cell? ⟨b, o + 2, none⟩ = some (.int .i64 t.n)
  pos : w.cell? ⟨b, o + 3, none⟩ = some (.int .i64 t.pos)

/-- A slice's address, below block B, from which on the tokens of l lie. -/
structure Toks (w : World) (B : Nat) (A : Option Addr) (l : List Tok) : Prop where
  at_ : ∀ k t, l[k]? = some t → ∃ b o, A = some ⟨b, o, none⟩ ∧ b < B ∧ TokAt w b (o + k * 4) t
  len : l.length ≤ 3518437208883
  texts : ∀ t ∈ l, t.text.length ≤ 140737488351232

theorem TokAt.cells {w w' : World} {b o : Nat} {t : Tok} (h : TokAt w b o t) (hc : ∀ i, w'.cell? ⟨b, i, none⟩ = w.cell? ⟨b, i, none⟩) : TokAt w' b o t :=
  ⟨(hc _).trans h.kind, (hc _).trans h.text, (hc _).trans h.n, (hc _).trans h.pos⟩
theorem Toks.below {w w' : World} {B B' : Nat} {A : Option Addr} {l : List Tok} (h : Toks w B A l) (hb : Below B' w w') (hB : B ≤ B') : Toks w' B A l :=
  ⟨fun k t ht => by
    obtain ⟨b, o, e, hlt, h4⟩ := h.at_ k t ht
    exact ⟨b, o, e, hlt, h4.cells fun i => hb.cell (p := ⟨b, i, none⟩) (show b < B' by omega)⟩, h.len, h.texts⟩
theorem Toks.mono {w : World} {B B' : Nat} {A : Option Addr} {l : List Tok} (h : Toks w B A l) (hB : B ≤ B') : Toks w B' A l :=
  ⟨fun k t ht => by
    obtain ⟨b, o, e, hlt, h4⟩ := h.at_ k t ht
    exact ⟨b, o, e, by omega, h4⟩, h.len, h.texts⟩
theorem Toks.drewN {w : World} {B : Nat} {A : Option Addr} {l : List Tok} (h : Toks w B A l) (n : Nat) : Toks (w.drewN n) B A l := ⟨fun k t ht => by
    obtain ⟨b, o, e, hlt, h4⟩ := h.at_ k t ht
    exact ⟨b, o, e, by omega, ⟨h4.kind, h4.text, h4.n, h4.pos⟩⟩, h.len, h.texts⟩
theorem Toks.nil (w : World) (B : Nat) (A : Option Addr) : Toks w B A [] := ⟨fun k t h => by simp at h, by simp, fun t h => by simp at h⟩

/-- Few tokens, as the reference counts (its sum may wrap). -/
def Lx.fs (l : List Tok) : Int := l.foldl (fun n t => wrap64 (n + (t.text.length : Int))) 0
def Lx.few (l : List Tok) : Bool := decide ((l.length : Int) ≤ 200) && decide (Lx.fs l ≤ 2000)
theorem Lx.fs_snoc (l : List Tok) (k : Nat) (t : Tok) (h : l[k]? = some t) : Lx.fs (l.take (k + 1)) = wrap64 (Lx.fs (l.take k) + (t.text.length : Int)) := by
  unfold Lx.fs
  rw [List.take_add_one, h]
  simp [List.foldl_append]

set_option maxHeartbeats 400000 in
theorem rFew (A : Option Addr) (c : Nat) (l : List Tok) (w : World) (h : Toks w w.heap.size A l) :
    Calls Tryd.prog 18 #[.slice A l.length c] w fun e w' => e = .returned (.bool (Lx.few l)) ∧ w = w' := by
  have hlen := h.len
  go_enter Tryd.func18, Tryd.ntmps18
  go_wp2
  go_loop [3, 4] (fun n i => ∃ k : Nat, k ≤ l.length ∧ i = .int .i64 k ∧ n = .int .i64 (Lx.fs (l.take k))) (fun _ i => l.length - (intOf i).toNat)
  case atStart => exact ⟨0, by omega, rfl, rfl⟩
  case round =>
    obtain ⟨k, hk, rfl, rfl⟩ := hrel
    by_cases hlt : k < l.length
    · obtain ⟨b, o, rfl, hb, h4⟩ := h.at_ k l[k] (List.getElem?_eq_getElem hlt)
      obtain ⟨t, ht⟩ : ∃ t, t = l[k] := ⟨_, rfl⟩
      rw [← ht] at h4
      have htk : l[k]? = some t := by rw [ht, List.getElem?_eq_getElem hlt]
      clear ht
      have Hs := Lib.hid (Lx.fs_snoc l k t htk); clear htk
      obtain ⟨q1, q2, q3, q4⟩ := h4
      obtain ⟨F, hF⟩ : ∃ F, F = Lx.fs (l.take k) := ⟨_, rfl⟩
      rw [← hF] at Hs ⊢
      clear hF
      go_wp2
      go_round
      case rel => exact ⟨k + 1, by omega, by go_num, by rw [Hs.out, Lx.bs_size]⟩
      case measure => simp [intOf]; omega
    · obtain rfl : k = l.length := by omega
      rw [List.take_length]
      by_cases h200 : (l.length : Int) ≤ 200
      all_goals
        go_wp2
        go_ret
        exact ⟨ret_bool (by unfold Lx.few; simp <;> omega), rfl⟩

theorem Lx.same1_iff (a b : Tok) : Lx.same1 a b = (a.kind == b.kind && a.text == b.text && a.n == b.n) := rfl
theorem Lx.same_len (a b : List Tok) (h : Lx.same a b = true) : a.length = b.length := by
  induction a generalizing b with
  | nil => cases b <;> simp_all [Lx.same]
  | cons x r ih =>
    cases b with
    | nil => simp [Lx.same] at h
    | cons y s => simp only [Lx.same, Bool.and_eq_true] at h; simp [ih s h.2]
theorem Lx.same_ne (a b : List Tok) (h : a.length ≠ b.length) : Lx.same a b = false := by
  cases hs : Lx.same a b
  · rfl
  · exact absurd (Lx.same_len a b hs) h
theorem Lx.same_bad (a b : List Tok) (k : Nat) (x y : Tok) (hx : a[k]? = some x) (hy : b[k]? = some y) (h : Lx.same1 x y = false) : Lx.same a b = false := by
  induction a generalizing b k with
  | nil => simp at hx
  | cons u r ih =>
    cases b with
    | nil => simp at hy
    | cons v s =>
      cases k with
      | zero => simp at hx hy; subst hx; subst hy; simp [Lx.same, h]
      | succ k => simp only [List.getElem?_cons_succ] at hx hy; simp [Lx.same, ih s k hx hy]
theorem Lx.same_all (a b : List Tok) (hl : a.length = b.length) (h : ∀ (k : Nat) (x y : Tok), a[k]? = some x → b[k]? = some y → Lx.same1 x y = true) : Lx.same a b = true := by
  induction a generalizing b with
  | nil => cases b <;> simp_all [Lx.same]
  | cons u r ih =>
    cases b with
    | nil => simp at hl
    | cons v s =>
      simp only [Lx.same, Bool.and_eq_true]
      exact ⟨h 0 u v rfl rfl, ih s (by simpa using hl) fun k x y hx hy => h (k + 1) x y (by simpa using hx) (by simpa using hy)⟩
theorem Lx.bs_beq (a b : List UInt8) : ((Lx.bs a).toList == (Lx.bs b).toList) = (a == b) := by
  rw [ByteArray.toList_eq, ByteArray.toList_eq, Lx.bs_list, Lx.bs_list]

set_option maxHeartbeats 800000 in
theorem rSame (A A' : Option Addr) (c c' : Nat) (l l' : List Tok) (w : World) (h : Toks w w.heap.size A l) (h' : Toks w w.heap.size A' l') :
    Calls Tryd.prog 22 #[.slice A l.length c, .slice A' l'.length c'] w fun e w' => e = .returned (.bool (Lx.same l l')) ∧ ∃ n, w' = w.drewN n := by
  have hlen := h.len
  have hlen' := h'.len
  by_cases hll : l.length = l'.length
  case neg =>
    have hne : ((l.length : Int) != (l'.length : Int)) = true := by rw [bne_iff_ne]; omega
    rw [Lx.same_ne l l' hll]
    have Hll := Lib.hid hll; clear hll
    go_enter Tryd.func22, Tryd.ntmps22
    go_wp2
    go_ret
    exact ⟨rfl, 0, rfl⟩
  have Hll := Lib.hid hll
  obtain ⟨m, hm⟩ : ∃ m, m = l'.length := ⟨_, rfl⟩
  rw [← hm] at hll ⊢
  rw [hll]
  have hml : m ≤ 3518437208883 := by omega
  have hlm : l.length ≤ m := by omega
  have hml' : l'.length ≤ m := by omega
  have hlm2 : m ≤ l.length := by omega
  have hlm3 : m ≤ l'.length := by omega
  clear hll hm hlen hlen'
  go_enter Tryd.func22, Tryd.ntmps22
  go_wp2
  go_loopw [5] (fun i wr => ∃ k n : Nat, k ≤ m ∧ i = .int .i64 k ∧ wr = w.drewN n ∧ ∀ (j : Nat) (x y : Tok), j < k → l[j]? = some x → l'[j]? = some y → Lx.same1 x y = true) (fun i _ => m - (intOf i).toNat)
  case atStart => exact ⟨0, 0, by omega, rfl, rfl, fun j x y hj => absurd hj (by omega)⟩
  case round =>
    obtain ⟨k, n, hk, rfl, rfl, hh⟩ := hrel
    have Hh := Lib.hid hh; clear hh
    by_cases hlt : k < m
    · obtain ⟨b, o, rfl, hb, h4⟩ := h.at_ k l[k] (List.getElem?_eq_getElem (by omega))
      obtain ⟨x, hx⟩ : ∃ x, l[k]? = some x := ⟨_, List.getElem?_eq_getElem (by omega)⟩
      rw [show l[k] = x from by have := List.getElem?_eq_getElem (l := l) (i := k) (by omega); rw [hx] at this; injection this with this; exact this.symm] at h4
      obtain ⟨b', o', rfl, hb', h4'⟩ := h'.at_ k l'[k] (List.getElem?_eq_getElem (by omega))
      obtain ⟨y, hy⟩ : ∃ y, l'[k]? = some y := ⟨_, List.getElem?_eq_getElem (by omega)⟩
      rw [show l'[k] = y from by have := List.getElem?_eq_getElem (l := l') (i := k) (by omega); rw [hy] at this; injection this with this; exact this.symm] at h4'
      have Hx := Lib.hid hx; have Hy := Lib.hid hy
      clear hx hy
      obtain ⟨p1, p2, p3, p4⟩ := h4
      obtain ⟨q1, q2, q3, q4⟩ := h4'
      have hs := Lx.same1_iff x y
      rw [← Lx.bs_beq] at hs
      cases e1 : x.kind == y.kind
      · have e1' : (x.kind != y.kind) = true := by simp [bne, e1]
        rw [e1] at hs
        have Hs := Lib.hid hs; clear hs
        go_wp2
        go_quiet (fail)
        go_wp2
        go_ret
        exact ⟨ret_bool (Lx.same_bad l l' k x y Hx.out Hy.out (by rw [Hs.out]; rfl)).symm, _, World.drewN_drewN _ _ _⟩
      · have e1' : (x.kind != y.kind) = false := by simp [bne, e1]
        rw [e1] at hs
        cases e2 : (Lx.bs x.text).toList == (Lx.bs y.text).toList
        · rw [e2] at hs
          have Hs := Lib.hid hs; clear hs
          go_wp2
          go_quiet (fail)
          go_wp2
          go_ret
          exact ⟨ret_bool (Lx.same_bad l l' k x y Hx.out Hy.out (by rw [Hs.out]; rfl)).symm, _, World.drewN_drewN _ _ _⟩
        · rw [e2] at hs
          cases e3 : x.n == y.n
          · have e3' : (x.n != y.n) = true := by simp [bne, e3]
            rw [e3] at hs
            have Hs := Lib.hid hs; clear hs
            go_wp2
            go_quiet (fail)
            go_wp2
            go_ret
            exact ⟨ret_bool (Lx.same_bad l l' k x y Hx.out Hy.out (by rw [Hs.out]; rfl)).symm, _, World.drewN_drewN _ _ _⟩
          · have e3' : (x.n != y.n) = false := by simp [bne, e3]
            rw [e3] at hs
            have Hs := Lib.hid hs; clear hs
            go_wp2
            go_quiet (fail)
            go_wp2
            go_roundw
            case rel =>
              refine ⟨k + 1, _, by omega, by go_num, rfl, fun j u v hj hu hv => ?_⟩
              rcases Nat.lt_or_ge j k with hjk | hjk
              · exact Hh.out j u v hjk hu hv
              · obtain rfl : j = k := by omega
                rw [Hx.out] at hu; rw [Hy.out] at hv
                obtain rfl := Option.some.inj hu
                obtain rfl := Option.some.inj hv
                rw [Hs.out]; rfl
            case measure => simp [intOf]; omega
    · obtain rfl : k = m := by omega
      go_wp2
      go_ret
      exact ⟨ret_bool (Lx.same_all l l' Hll.out fun j x y hx hy => Hh.out j x y (by have := (List.getElem?_eq_some_iff.1 hx).1; omega) hx hy).symm, _, rfl⟩

theorem Lx.eq_not_same (a b : List Tok) (h : Lx.same a b = false) : decide (a = b) = false := by
  refine decide_eq_false fun e => ?_
  subst e
  have : Lx.same a a = true := Lx.same_all a a rfl fun k x y hx hy => by
    rw [hx] at hy; obtain rfl := Option.some.inj hy; simp [Lx.same1]
  rw [this] at h; cases h

theorem Lx.eq_of_same : ∀ (a b : List Tok), Lx.same a b = true → (∀ (j : Nat) (x y : Tok), a[j]? = some x → b[j]? = some y → x.pos = y.pos) → a = b
  | [], [], _, _ => rfl
  | [], _ :: _, h, _ => by simp [Lx.same] at h
  | _ :: _, [], h, _ => by simp [Lx.same] at h
  | x :: r, y :: s, h, hp => by
    simp only [Lx.same, Bool.and_eq_true, Lx.same1, beq_iff_eq] at h
    have h0 := hp 0 x y rfl rfl
    have hr := Lx.eq_of_same r s h.2 fun j u v hu hv => hp (j + 1) u v (by simpa using hu) (by simpa using hv)
    obtain ⟨⟨⟨h1, h2⟩, h3⟩, _⟩ := h
    subst hr
    cases x; cases y; simp_all

set_option maxHeartbeats 800000 in
theorem rEqual (A A' : Option Addr) (c c' : Nat) (l l' : List Tok) (w : World) (h : Toks w w.heap.size A l) (h' : Toks w w.heap.size A' l') :
    Calls Tryd.prog 17 #[.slice A l.length c, .slice A' l'.length c'] w fun e w' => e = .returned (.bool (decide (l = l'))) ∧ ∃ n, w' = w.drewN n := by
  have hsame := rSame A A' c c' l l' w h h'
  have Hsame := Lib.hid hsame; clear hsame
  cases hb : Lx.same l l'
  · rw [Lx.eq_not_same l l' hb]
    go_enter Tryd.func17, Tryd.ntmps17
    go_wp2_with (go_at_call 22; refine (Hsame.out).mono ?_; rintro e w' ⟨rfl, n, rfl⟩)
    go_ret
    exact ⟨rfl, _, rfl⟩
  have hlen := h.len
  have hlen' := h'.len
  have hll := Lx.same_len l l' hb
  have Hb := Lib.hid hb; clear hb
  have Hll := Lib.hid hll
  have Hll2 := Lib.hid hll
  obtain ⟨m, hm⟩ : ∃ m, m = l'.length := ⟨_, rfl⟩
  have Hm := Lib.hid hm
  rw [← hm] at hll ⊢
  rw [hll]
  have hml : m ≤ 3518437208883 := by omega
  have hlm : l.length ≤ m := by omega
  have hml' : l'.length ≤ m := by omega
  have hlm2 : m ≤ l.length := by omega
  have hlm3 : m ≤ l'.length := by omega
  have Hsame2 : Hid (Calls Tryd.prog 22 #[.slice A m c, .slice A' m c'] w fun e w' => e = .returned (.bool true) ∧ ∃ n, w' = w.drewN n) := by
    have := Hsame.out
    rw [Hll2.out, Hb.out, ← Hm.out] at this
    exact Lib.hid this
  clear hll hm hlen hlen'
  go_enter Tryd.func17, Tryd.ntmps17
  go_wp2_with (go_at_call 22; refine (Hsame2.out).mono ?_; rintro e w' ⟨rfl, n0, rfl⟩)
  go_loopw [5] (fun i wr => ∃ k n : Nat, k ≤ m ∧ i = .int .i64 k ∧ wr = w.drewN n ∧ ∀ (j : Nat) (x y : Tok), j < k → l[j]? = some x → l'[j]? = some y → x.pos = y.pos) (fun i _ => m - (intOf i).toNat)
  case atStart => exact ⟨0, n0, by omega, rfl, rfl, fun j x y hj => absurd hj (by omega)⟩
  case round =>
    obtain ⟨k, n, hk, rfl, rfl, hh⟩ := hrel
    have Hh := Lib.hid hh; clear hh
    by_cases hlt : k < m
    · obtain ⟨b, o, rfl, hb, h4⟩ := h.at_ k l[k] (List.getElem?_eq_getElem (by omega))
      obtain ⟨x, hx⟩ : ∃ x, l[k]? = some x := ⟨_, List.getElem?_eq_getElem (by omega)⟩
      rw [show l[k] = x from by have := List.getElem?_eq_getElem (l := l) (i := k) (by omega); rw [hx] at this; injection this with this; exact this.symm] at h4
      obtain ⟨b', o', rfl, hb', h4'⟩ := h'.at_ k l'[k] (List.getElem?_eq_getElem (by omega))
      obtain ⟨y, hy⟩ : ∃ y, l'[k]? = some y := ⟨_, List.getElem?_eq_getElem (by omega)⟩
      rw [show l'[k] = y from by have := List.getElem?_eq_getElem (l := l') (i := k) (by omega); rw [hy] at this; injection this with this; exact this.symm] at h4'
      have Hx := Lib.hid hx; have Hy := Lib.hid hy
      clear hx hy
      obtain ⟨p1, p2, p3, p4⟩ := h4
      obtain ⟨q1, q2, q3, q4⟩ := h4'
      cases e1 : x.pos == y.pos
      · have e1' : (x.pos != y.pos) = true := by simp [bne, e1]
        have e1n := Lib.hid e1; clear e1
        go_wp2
        go_quiet (fail)
        go_wp2
        go_ret
        refine ⟨ret_bool (decide_eq_false fun e => ?_).symm, _, World.drewN_drewN _ _ _⟩
        have hx := Hx.out
        rw [e, Hy.out] at hx
        obtain rfl := Option.some.inj hx
        have := e1n.out
        simp at this
      · have e1' : (x.pos != y.pos) = false := by simp [bne, e1]
        have e1n := Lib.hid e1; clear e1
        go_wp2
        go_quiet (fail)
        go_wp2
        go_roundw
        case rel =>
          refine ⟨k + 1, _, by omega, by go_num, rfl, fun j u v hj hu hv => ?_⟩
          rcases Nat.lt_or_ge j k with hjk | hjk
          · exact Hh.out j u v hjk hu hv
          · obtain rfl : j = k := by omega
            rw [Hx.out] at hu; rw [Hy.out] at hv
            obtain rfl := Option.some.inj hu
            obtain rfl := Option.some.inj hv
            exact eq_of_beq e1n.out
        case measure => simp [intOf]; omega
    · obtain rfl : k = m := by omega
      go_wp2
      go_ret
      exact ⟨ret_bool (decide_eq_true (Lx.eq_of_same l l' Hb.out fun j x y hx hy => Hh.out j x y (by have := (List.getElem?_eq_some_iff.1 hx).1; omega) hx hy)).symm, _, rfl⟩
end Go.Proofs.YtocelmjncjompaaDoor
