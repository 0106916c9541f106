/- Walks of the scanner: run. -/
import Derived.Test.YtocelmjncjompaaDoorLxC
import Derived.Test.YtocelmjncjompaaDoorLxMem
namespace Go.Proofs.YtocelmjncjompaaDoor
open Go.RowKit
open Lx (Tok)

/-- How many bytes at the head of a list are of some classes. -/
def Lx.runLen (zs : List Int) (l : List UInt8) : Nat := (l.takeWhile fun c => zs.contains (Lx.cls c)).length
theorem Lx.tw_len (p : UInt8 → Bool) : ∀ (l : List UInt8) (k : Nat), k ≤ l.length → (∀ j (h : j < l.length), j < k → p l[j] = true) → (∀ h : k < l.length, p l[k] = false) → (l.takeWhile p).length = k
  | [], k, hk, _, _ => by simp at hk; simp [hk]
  | c :: r, 0, _, _, h => by
    have h0 : p c = false := h (by simp)
    simp [h0]
  | c :: r, k + 1, hk, ha, h => by
    have h0 : p c = true := ha 0 (by simp) (by omega)
    simp only [List.takeWhile_cons, h0, if_true, List.length_cons]
    rw [Lx.tw_len p r k (by simpa using hk) (fun j hj hjk => ha (j + 1) (by simpa using hj) (by omega)) (fun hh => h (by simpa using hh))]
theorem Lx.run_end (zs : List Int) (s : ByteArray) (a n : Nat) (han : a ≤ n) (hn : n ≤ s.size) (h1 : ∀ j (h : j < s.size), a ≤ j → j < n → zs.contains (Lx.cls s[j]) = true) (h2 : ∀ h : n < s.size, zs.contains (Lx.cls s[n]) = false) :
    a + Lx.runLen zs (s.data.toList.drop a) = n := by
  unfold Lx.runLen
  have hl := Lx.ba_len s
  rw [Lx.tw_len _ _ (n - a) (by rw [List.length_drop]; omega)]
  · omega
  · intro j hj hjn
    rw [List.length_drop] at hj
    rw [List.getElem_drop]
    exact h1 (a + j) (by omega) (by omega) (by omega)
  · intro hj
    rw [List.length_drop] at hj
    rw [List.getElem_drop]
    have := h2 (by omega)
    simp only [show a + (n - a) = n by omega]
    exact this

set_option maxHeartbeats 800000 in
theorem lRun (g bz a c : Nat) (src : ByteArray) (zs : List Int) (w : World) (hg0 : w.cell? ⟨g, 0, none⟩ = some (.string src)) (hg1 : w.cell? ⟨g, 1, none⟩ = some (.int .i64 a))
    (hz : ∀ j, j < zs.length → w.cell? ⟨bz, 0 + j, none⟩ = some (.int .i64 (zs.getD j 0))) (hzl : zs.length ≤ 100) (ha : a ≤ src.size) (hs : src.size ≤ 65536) :
    Calls Tryd.prog 68 #[.pointer (some ⟨g, 0, none⟩), .slice (some ⟨bz, 0, none⟩) zs.length c] w fun e w' =>
      e = .returned (.string (src.extract a (a + Lx.runLen zs (src.data.toList.drop a)))) ∧ ∃ n, w' = w.drewN n := by
  have Hz := Lib.hid hz; clear hz
  go_enter Tryd.func68, Tryd.ntmps68
  go_wp2
  go_loop [5] (fun i => ∃ n : Nat, n ≤ src.size ∧ i = .int .i64 n ∧ a ≤ n ∧ ∀ j (h : j < src.size), a ≤ j → j < n → zs.contains (Lx.cls src[j]) = true) (fun i => src.size - (intOf i).toNat)
  case atStart => exact ⟨a, by omega, rfl, by omega, fun j h1 h2 h3 => absurd h2 (by omega)⟩
  case round =>
    obtain ⟨n, hn, rfl, han, hh⟩ := hrel
    have Hh := Lib.hid hh; clear hh
    by_cases hlt : n < src.size
    · have hcon := cContainsInt bz 0 zs.length c zs (Lx.cls src[n]) w (Nat.le_refl _) (by omega) Hz.out
      rw [List.take_length] at hcon
      have Hcon := Lib.hid hcon; clear hcon
      cases hc : zs.contains (Lx.cls src[n])
      · rw [hc] at Hcon
        go_wp2_with (first | (go_at_call 40; refine (lClass _ _).mono ?_; rintro e w' ⟨rfl, rfl⟩) | (go_at_call 91; refine (Hcon.out).mono ?_; rintro e w' ⟨rfl, rfl⟩))
        go_quiet (fail)
        go_wp2
        go_ret
        exact ⟨congrArg Ending.returned (congrArg Value.string (by rw [Lx.run_end zs src a n han hn Hh.out fun _ => hc])), _, rfl⟩
      · rw [hc] at Hcon
        go_wp2_with (first | (go_at_call 40; refine (lClass _ _).mono ?_; rintro e w' ⟨rfl, rfl⟩) | (go_at_call 91; refine (Hcon.out).mono ?_; rintro e w' ⟨rfl, rfl⟩))
        go_round
        case rel =>
          refine ⟨n + 1, by omega, by go_num, by omega, fun j hj haj hjn => ?_⟩
          rcases Nat.lt_or_ge j n with h | h
          · exact Hh.out j hj haj h
          · obtain rfl : j = n := by omega
            exact hc
        case measure => simp [intOf]; omega
    · go_wp2
      go_quiet (fail)
      go_wp2
      go_ret
      exact ⟨congrArg Ending.returned (congrArg Value.string (by rw [Lx.run_end zs src a n han hn Hh.out fun h => absurd h hlt])), _, rfl⟩
end Go.Proofs.YtocelmjncjompaaDoor
