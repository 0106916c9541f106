/- Parts of the proof, joined into one text: LxC, LxD, LxE, SxMem. -/
import Derived.Test.YtjonaidancomgaaGreatDoorZShelf
import Derived.Deep.RegionHeld3
import Derived.Deep.AppendLies
import Derived.Deep.RegionLaw
import Derived.Test.YtjonaidancomgaaGreatDoorZLxPlain

namespace Go.Proofs.YtjonaidancomgaaGreatDoor
open Go.RowKit

theorem Lx.one_of (s : ByteArray) (h : s.size = 1) : s.data.toList = [s[0]] := by
  have h1 := Lx.ba_len s
  have h0 := Lx.ba_get s 0 (by omega)
  match hs : s.data.toList, h1 with
  | [c], _ => rw [← h0]; simp [hs]
  | [], h1 => simp at h1; omega
  | _ :: _ :: _, h1 => simp at h1; omega
theorem Lx.sign_cls (c : UInt8) (h : Lx.cls c = 4) : Lx.sign c = true := by
  unfold Lx.cls at h
  repeat' (split at h)
  all_goals first | assumption | (exfalso; omega)
theorem Lx.sign_not : ∀ c ∈ Lx.signs, Lx.cls c = 4 := by decide
theorem Lx.cls_sign (c : UInt8) : decide (Lx.cls c = 4) = Lx.sign c := by
  cases hs : Lx.sign c
  · exact decide_eq_false fun h => by rw [Lx.sign_cls c h] at hs; cases hs
  · exact decide_eq_true (Lx.sign_not c (by simpa [Lx.sign] using hs))

theorem Lx.valid_one (s : ByteArray) (n p : Int) : Lx.valid ⟨1, s.data.toList, n, p⟩ = (Lx.isName s.data.toList && (n == 0)) := rfl
theorem Lx.valid_two (s : ByteArray) (n p : Int) : Lx.valid ⟨2, s.data.toList, n, p⟩ = (s.data.toList.isEmpty && decide (0 ≤ n) && decide (n ≤ 1099511627776)) := rfl
theorem Lx.valid_three (s : ByteArray) (n p : Int) (h : s.size = 1) : Lx.valid ⟨3, s.data.toList, n, p⟩ = (Lx.sign s[0] && (n == 0)) := by
  rw [Lx.one_of s h]; rfl
theorem Lx.valid_three' (s : ByteArray) (n p : Int) (h : s.size ≠ 1) : Lx.valid ⟨3, s.data.toList, n, p⟩ = false := by
  have h1 := Lx.ba_len s
  match hs : s.data.toList, h1 with
  | [c], h1 => simp at h1; omega
  | [], h1 => rfl
  | _ :: _ :: _, h1 => rfl
theorem Lx.valid_other (k : Int) (s : List UInt8) (n p : Int) (h1 : k ≠ 1) (h2 : k ≠ 2) (h3 : k ≠ 3) : Lx.valid ⟨k, s, n, p⟩ = false := by
  simp [Lx.valid, h1, h2, h3]

set_option maxHeartbeats 800000 in
theorem lValid (k n p : Int) (s : ByteArray) (w : World) (hs : s.size ≤ maxLen) :
    Calls Tryz.prog 131 #[.agg #[.int .i64 k, .string s, .int .i64 n, .int .i64 p]] w fun e w' => e = .returned (.bool (Lx.valid ⟨k, s.data.toList, n, p⟩)) ∧ Below w.heap.size w w' := by
  by_cases k1 : k = 1
  · subst k1
    rw [Lx.valid_one]
    cases hn : Lx.isName s.data.toList
    all_goals
      go_enter Tryz.func131, Tryz.ntmps131
      go_wp2_with (go_at_call 118; refine (lName _ _ hs).mono ?_; rintro e w' ⟨rfl, rfl⟩)
      go_ret
      exact ⟨ret_bool (by simp), (Below.refl _ _).alloc (Nat.le_refl _) _⟩
  by_cases k2 : k = 2
  · subst k2
    rw [Lx.valid_two, ← ByteArray.toList_eq]
    cases hn : s.toList.isEmpty
    · go_enter Tryz.func131, Tryz.ntmps131
      go_wp2_with fail
      go_ret
      exact ⟨ret_bool (by simp), (Below.refl _ _).alloc (Nat.le_refl _) _⟩
    · have hn' : s.toList = [] := by simpa using hn
      by_cases n0 : 0 ≤ n
      all_goals
        go_enter Tryz.func131, Tryz.ntmps131
        go_wp2_with fail
        go_ret
        exact ⟨ret_bool (by simp <;> omega), (Below.refl _ _).alloc (Nat.le_refl _) _⟩
  by_cases k3 : k = 3
  · subst k3
    by_cases h1 : s.size = 1
    · rw [Lx.valid_three s n p h1, ← Lx.cls_sign]
      have h1' : (s.size : Int) = 1 := by omega
      have h0 : 0 < s.size := by omega
      by_cases hc : Lx.cls s[0] = 4
      all_goals
        go_enter Tryz.func131, Tryz.ntmps131
        go_wp2_with (go_at_call 81; refine (lClass _ _).mono ?_; rintro e w' ⟨rfl, rfl⟩)
        go_ret
        exact ⟨ret_bool (by simp [hc]), (Below.refl _ _).alloc (Nat.le_refl _) _⟩
    · rw [Lx.valid_three' s n p h1]
      have h1' : ((s.size : Int) == 1) = false := beq_eq_false_iff_ne.2 (by omega)
      go_enter Tryz.func131, Tryz.ntmps131
      go_wp2_with fail
      go_ret
      exact ⟨ret_bool (by simp), (Below.refl _ _).alloc (Nat.le_refl _) _⟩
  rw [Lx.valid_other k _ n p k1 k2 k3]
  have k1' : (k == 1) = false := beq_eq_false_iff_ne.2 k1
  have k2' : (k == 2) = false := beq_eq_false_iff_ne.2 k2
  have k3' : (k == 3) = false := beq_eq_false_iff_ne.2 k3
  go_enter Tryz.func131, Tryz.ntmps131
  go_wp2_with fail
  go_ret
  exact ⟨rfl, (Below.refl _ _).alloc (Nat.le_refl _) _⟩
set_option maxHeartbeats 800000 in
theorem rValid (k n p : Int) (s : ByteArray) (w : World) (hs : s.size ≤ maxLen) :
    Calls Tryz.prog 138 #[.agg #[.int .i64 k, .string s, .int .i64 n, .int .i64 p]] w fun e w' => e = .returned (.bool (Lx.valid ⟨k, s.data.toList, n, p⟩)) ∧ Below w.heap.size w w' := by
  by_cases k1 : k = 1
  · subst k1
    rw [Lx.valid_one]
    cases hn : Lx.isName s.data.toList
    all_goals
      go_enter Tryz.func138, Tryz.ntmps138
      go_wp2_with (go_at_call 135; refine (rName _ _ hs).mono ?_; rintro e w' ⟨rfl, rfl⟩)
      go_ret
      exact ⟨ret_bool (by simp), (Below.refl _ _).alloc (Nat.le_refl _) _⟩
  by_cases k2 : k = 2
  · subst k2
    rw [Lx.valid_two, ← ByteArray.toList_eq]
    cases hn : s.toList.isEmpty
    · go_enter Tryz.func138, Tryz.ntmps138
      go_wp2_with fail
      go_ret
      exact ⟨ret_bool (by simp), (Below.refl _ _).alloc (Nat.le_refl _) _⟩
    · have hn' : s.toList = [] := by simpa using hn
      by_cases n0 : 0 ≤ n
      all_goals
        go_enter Tryz.func138, Tryz.ntmps138
        go_wp2_with fail
        go_ret
        exact ⟨ret_bool (by simp <;> omega), (Below.refl _ _).alloc (Nat.le_refl _) _⟩
  by_cases k3 : k = 3
  · subst k3
    by_cases h1 : s.size = 1
    · rw [Lx.valid_three s n p h1]
      have h1' : (s.size : Int) = 1 := by omega
      have h0 : 0 < s.size := by omega
      cases hc : Lx.sign s[0]
      all_goals
        go_enter Tryz.func138, Tryz.ntmps138
        go_wp2_with (go_at_call 169; refine (rSign _ _).mono ?_; rintro e w' ⟨rfl, rfl⟩)
        go_ret
        exact ⟨ret_bool (by simp), (Below.refl _ _).alloc (Nat.le_refl _) _⟩
    · rw [Lx.valid_three' s n p h1]
      have h1' : ((s.size : Int) == 1) = false := beq_eq_false_iff_ne.2 (by omega)
      go_enter Tryz.func138, Tryz.ntmps138
      go_wp2_with fail
      go_ret
      exact ⟨ret_bool (by simp), (Below.refl _ _).alloc (Nat.le_refl _) _⟩
  rw [Lx.valid_other k _ n p k1 k2 k3]
  have k1' : (k == 1) = false := beq_eq_false_iff_ne.2 k1
  have k2' : (k == 2) = false := beq_eq_false_iff_ne.2 k2
  have k3' : (k == 3) = false := beq_eq_false_iff_ne.2 k3
  go_enter Tryz.func138, Tryz.ntmps138
  go_wp2_with fail
  go_ret
  exact ⟨rfl, (Below.refl _ _).alloc (Nat.le_refl _) _⟩
end Go.Proofs.YtjonaidancomgaaGreatDoor

namespace Go.Proofs.YtjonaidancomgaaGreatDoor
open Go.RowKit
open Lx (Tok)

/-- How many bytes at the head of a list are of some classes. -/
def Lx.runLen (zs : List Int) (l : List UInt8) : Nat := (l.takeWhile fun c => zs.contains (Lx.cls c)).length
theorem Lx.tw_len (p : UInt8 → Bool) : ∀ (l : List UInt8) (k : Nat), k ≤ l.length → (∀ j (h : j < l.length), j < k → p l[j] = true) → (∀ h : k < l.length, p l[k] = false) → (l.takeWhile p).length = k
  | [], k, hk, _, _ => by simp at hk; simp [hk]
  | c :: r, 0, _, _, h => by
    have h0 : p c = false := h (by simp)
    simp [h0]
  | c :: r, k + 1, hk, ha, h => by
    have h0 : p c = true := ha 0 (by simp) (by omega)
    simp only [List.takeWhile_cons, h0, if_true, List.length_cons]
    rw [Lx.tw_len p r k (by simpa using hk) (fun j hj hjk => ha (j + 1) (by simpa using hj) (by omega)) (fun hh => h (by simpa using hh))]
theorem Lx.run_end (zs : List Int) (s : ByteArray) (a n : Nat) (han : a ≤ n) (hn : n ≤ s.size) (h1 : ∀ j (h : j < s.size), a ≤ j → j < n → zs.contains (Lx.cls s[j]) = true) (h2 : ∀ h : n < s.size, zs.contains (Lx.cls s[n]) = false) :
    a + Lx.runLen zs (s.data.toList.drop a) = n := by
  unfold Lx.runLen
  have hl := Lx.ba_len s
  rw [Lx.tw_len _ _ (n - a) (by rw [List.length_drop]; omega)]
  · omega
  · intro j hj hjn
    rw [List.length_drop] at hj
    rw [List.getElem_drop]
    exact h1 (a + j) (by omega) (by omega) (by omega)
  · intro hj
    rw [List.length_drop] at hj
    rw [List.getElem_drop]
    have := h2 (by omega)
    simp only [show a + (n - a) = n by omega]
    exact this

set_option maxHeartbeats 800000 in
theorem lRun (g bz a c : Nat) (src : ByteArray) (zs : List Int) (w : World) (hg0 : w.cell? ⟨g, 0, none⟩ = some (.string src)) (hg1 : w.cell? ⟨g, 1, none⟩ = some (.int .i64 a))
    (hz : ∀ j, j < zs.length → w.cell? ⟨bz, 0 + j, none⟩ = some (.int .i64 (zs.getD j 0))) (hzl : zs.length ≤ 100) (ha : a ≤ src.size) (hs : src.size ≤ 65536) :
    Calls Tryz.prog 152 #[.pointer (some ⟨g, 0, none⟩), .slice (some ⟨bz, 0, none⟩) zs.length c] w fun e w' =>
      e = .returned (.string (src.extract a (a + Lx.runLen zs (src.data.toList.drop a)))) ∧ ∃ n, w' = w.drewN n := by
  have Hz := Lib.hid hz; clear hz
  go_enter Tryz.func152, Tryz.ntmps152
  go_wp2
  go_loop [5] (fun i => ∃ n : Nat, n ≤ src.size ∧ i = .int .i64 n ∧ a ≤ n ∧ ∀ j (h : j < src.size), a ≤ j → j < n → zs.contains (Lx.cls src[j]) = true) (fun i => src.size - (intOf i).toNat)
  case atStart => exact ⟨a, by omega, rfl, by omega, fun j h1 h2 h3 => absurd h2 (by omega)⟩
  case round =>
    obtain ⟨n, hn, rfl, han, hh⟩ := hrel
    have Hh := Lib.hid hh; clear hh
    by_cases hlt : n < src.size
    · have hcon := cContainsInt bz 0 zs.length c zs (Lx.cls src[n]) w (Nat.le_refl _) (by omega) Hz.out
      rw [List.take_length] at hcon
      have Hcon := Lib.hid hcon; clear hcon
      cases hc : zs.contains (Lx.cls src[n])
      · rw [hc] at Hcon
        go_wp2_with (first | (go_at_call 81; refine (lClass _ _).mono ?_; rintro e w' ⟨rfl, rfl⟩) | (go_at_call 195; refine (Hcon.out).mono ?_; rintro e w' ⟨rfl, rfl⟩))
        go_quiet (fail)
        go_wp2
        go_ret
        exact ⟨congrArg Ending.returned (congrArg Value.string (by rw [Lx.run_end zs src a n han hn Hh.out fun _ => hc])), _, rfl⟩
      · rw [hc] at Hcon
        go_wp2_with (first | (go_at_call 81; refine (lClass _ _).mono ?_; rintro e w' ⟨rfl, rfl⟩) | (go_at_call 195; refine (Hcon.out).mono ?_; rintro e w' ⟨rfl, rfl⟩))
        go_round
        case rel =>
          refine ⟨n + 1, by omega, by go_num, by omega, fun j hj haj hjn => ?_⟩
          rcases Nat.lt_or_ge j n with h | h
          · exact Hh.out j hj haj h
          · obtain rfl : j = n := by omega
            exact hc
        case measure => simp [intOf]; omega
    · go_wp2
      go_quiet (fail)
      go_wp2
      go_ret
      exact ⟨congrArg Ending.returned (congrArg Value.string (by rw [Lx.run_end zs src a n han hn Hh.out fun h => absurd h hlt])), _, rfl⟩
end Go.Proofs.YtjonaidancomgaaGreatDoor

namespace Go.Proofs.YtjonaidancomgaaGreatDoor
open Go.RowKit
open Lx (Tok)

/-- Block g is known whole, and none of it is frozen. -/
def Blk (w : World) (g : Nat) (t : TypeId) (cs : Array Value) : Prop := w.heap[g]? = some (.cells cs t (0, 0))
section
variable {w w' : World} {g : Nat} {t : TypeId} {cs : Array Value}
theorem Blk.lt (h : Blk w g t cs) : g < w.heap.size := by
  rcases Nat.lt_or_ge g w.heap.size with hlt | hge
  · exact hlt
  · unfold Blk at h; rw [Array.getElem?_eq_none hge] at h; cases h
theorem Blk.cell (h : Blk w g t cs) (i : Nat) : w.cell? ⟨g, i, none⟩ = cs[i]? := cell_of_row w g i cs t (0, 0) h
theorem Blk.free (h : Blk w g t cs) (i : Nat) : w.frozen? ⟨g, i, none⟩ = false := by
  unfold Blk at h
  simp [World.frozen?, h]
theorem Blk.new (w : World) (t : TypeId) (cs : Array Value) : Blk (w.alloc (.cells cs t)) w.heap.size t cs := heap_alloc_new w _
theorem Blk.drew (h : Blk w g t cs) : Blk w.drew g t cs := h
theorem Blk.drewN (h : Blk w g t cs) (n : Nat) : Blk (w.drewN n) g t cs := h
theorem Blk.alloc (h : Blk w g t cs) (o : Obj) : Blk (w.alloc o) g t cs := (Below.heap_alloc w o g h.lt).trans h
theorem Blk.set (h : Blk w g t cs) (i : Nat) (u : Value) : Blk (w.setCell ⟨g, i, none⟩ u) g t (cs.setIfInBounds i u) := by
  unfold Blk at h ⊢
  simp [World.setCell, Array.getElem?_modify, h]
theorem Blk.far (h : Blk w g t cs) {p : Addr} (hp : g ≠ p.block) (u : Value) : Blk (w.setCell p u) g t cs := (Below.heap_setCell w p u g hp).trans h
theorem Blk.below {B : Nat} (h : Blk w g t cs) (hb : Below B w w') (hg : g < B) : Blk w' g t cs := (hb.block g hg).trans h
theorem Blk.grown {row : Option Nat} (h : Blk w g t cs) (hb : w.grownBy w' row) (hg : row ≠ some g) : Blk w' g t cs := (hb.block g h.lt (fun e => hg e.symm)).trans h
theorem Blk.ne {g' : Nat} {t' : TypeId} {cs' : Array Value} (h : Blk w g t cs) (h' : Blk w g' t' cs') (hne : t ≠ t') : g ≠ g' := by
  rintro rfl
  unfold Blk at h h'
  rw [h] at h'
  injection h' with h'
  injection h' with _ ht
  exact hne ht
theorem own_ne {base : Nat} {e : TypeId} {size n : Nat} {v : Value} {xs : List Value} (h : w.ownsRow base e size v n xs) (hg : Blk w g t cs) (hne : e ≠ t) : v.ownBlock ≠ some g := by
  rcases h.2 with ⟨rfl, _⟩ | ⟨g', cap, cur, rfl, _, hh, _⟩
  · simp [Value.ownBlock]
  · intro he
    have : g' = g := by simpa [Value.ownBlock] using he
    subst this
    exact Blk.ne (t := e) hh hg hne rfl
end
/-- What a value owns stays owned in a world whose blocks below B are as they were. -/
theorem own_below {w w' : World} {base : Nat} {e : TypeId} {size n : Nat} {v : Value} {xs : List Value} (h : w.ownsRow base e size v n xs) (hb : Below w.heap.size w w') : w'.ownsRow base e size v n xs := by
  obtain ⟨h1, h2⟩ := h
  refine ⟨h1, ?_⟩
  rcases h2 with h2 | ⟨g, cap, cur, hv, hg, hh, r⟩
  · exact .inl h2
  · refine .inr ⟨g, cap, cur, hv, hg, ?_, r⟩
    have hlt : g < w.heap.size := by
      rcases Nat.lt_or_ge g w.heap.size with hlt | hge
      · exact hlt
      · rw [Array.getElem?_eq_none hge] at hh; cases hh
    exact (hb.block g hlt).trans hh
theorem own_setCell_far {w : World} {base : Nat} {e : TypeId} {size n : Nat} {v : Value} {xs : List Value} (h : w.ownsRow base e size v n xs) {p : Addr} (hp : v.ownBlock ≠ some p.block) (u : Value) : (w.setCell p u).ownsRow base e size v n xs := by
  obtain ⟨h1, h2⟩ := h
  refine ⟨h1, ?_⟩
  rcases h2 with h2 | ⟨g, cap, cur, hv, hg, hh, r⟩
  · exact .inl h2
  · exact .inr ⟨g, cap, cur, hv, hg, by
      rw [Below.heap_setCell _ _ _ _ (by intro e; exact hp (by rw [hv, ← e]; rfl))]; exact hh, r⟩

theorem own_lt {w : World} {base : Nat} {e : TypeId} {size n : Nat} {v : Value} {xs : List Value} (h : w.ownsRow base e size v n xs) {b : Nat} (hb : v.ownBlock = some b) : b < w.heap.size := by
  rcases h.2 with ⟨rfl, _⟩ | ⟨g, cap, cur, rfl, _, hh, _⟩
  · cases hb
  · have : g = b := by simpa [Value.ownBlock] using hb
    subst this
    rcases Nat.lt_or_ge g w.heap.size with hlt | hge
    · exact hlt
    · rw [Array.getElem?_eq_none hge] at hh; cases hh

theorem Tryz.infoTok : (Tryz.prog.info? 55).map (fun i => (i.zero, i.size, i.bytes)) = some (some (.agg #[.int .i64 0, .string ⟨#[]⟩, .int .i64 0, .int .i64 0]), 4, 40) := by kernel_rfl

theorem own_ge {w : World} {base : Nat} {e : TypeId} {size n : Nat} {v : Value} {xs : List Value} (h : w.ownsRow base e size v n xs) {b : Nat} (hb : v.ownBlock = some b) : base ≤ b := by
  rcases h.2 with ⟨rfl, _⟩ | ⟨g, cap, cur, rfl, hg, hh, _⟩
  · cases hb
  · have : g = b := by simpa [Value.ownBlock] using hb
    omega
theorem add_end {g m a t gg cap : Nat} {src : ByteArray} {v : Value} {o : Obj} {xs : List Value} {w w2 w3 : World} (hg : g ≤ w2.heap.size) (hbel : Below g w w2) (hgrow : (w2.alloc o).drew.grownBy w3 v.ownBlock)
    (hb3 : Blk w3 g 138 #[.string src, .int .i64 a, v]) (hown : w3.ownsRow g 55 4 (.slice (some ⟨gg, 0, none⟩) (m + 1) cap) (m + 1) xs) (_hvg : v.ownBlock ≠ some g)
    {ys : List Value} (hownv : w2.ownsRow g 55 4 v m ys) :
    Blk ((w3.setCell ⟨g, 2, none⟩ (.slice (some ⟨gg, 0, none⟩) (m + 1) cap)).setCell ⟨g, 1, none⟩ (.int .i64 ((a : Int) + (t : Int)))) g 138 #[.string src, .int .i64 ((a + t : Nat) : Int), .slice (some ⟨gg, 0, none⟩) (m + 1) cap] ∧
    ((w3.setCell ⟨g, 2, none⟩ (.slice (some ⟨gg, 0, none⟩) (m + 1) cap)).setCell ⟨g, 1, none⟩ (.int .i64 ((a : Int) + (t : Int)))).ownsRow g 55 4 (.slice (some ⟨gg, 0, none⟩) (m + 1) cap) (m + 1) xs ∧
    Below g w ((w3.setCell ⟨g, 2, none⟩ (.slice (some ⟨gg, 0, none⟩) (m + 1) cap)).setCell ⟨g, 1, none⟩ (.int .i64 ((a : Int) + (t : Int)))) := by
  have hne := own_ne hown hb3 (by decide)
  refine ⟨?_, ?_, ?_⟩
  · have := (hb3.set 2 (.slice (some ⟨gg, 0, none⟩) (m + 1) cap)).set 1 (.int .i64 ((a : Int) + (t : Int)))
    simpa using this
  · exact own_setCell_far (own_setCell_far hown hne _) hne _
  · refine (Below.setCell (Below.setCell ?_ (show g ≤ (⟨g, 2, none⟩ : Addr).block from Nat.le_refl g) _) (show g ≤ (⟨g, 1, none⟩ : Addr).block from Nat.le_refl g) _)
    refine hbel.trans ?_
    refine Below.grown (((Below.refl _ _).alloc hg o).drew) hgrow (by simp; omega) ?_
    intro k hk
    exact own_ge hownv hk

set_option maxHeartbeats 1000000 in
theorem lAddOk (g a m : Nat) (src text s : ByteArray) (k n p : Int) (v : Value) (xs : List Value) (w : World)
    (hblk : Blk w g 138 #[.string src, .int .i64 a, v]) (hown : w.ownsRow g 55 4 v m xs) (hm : m ≤ 65536) (ha : a + text.size ≤ 65536) (hs : s.size ≤ maxLen)
    (hv : Lx.valid ⟨k, s.data.toList, n, p⟩ = true) :
    Calls Tryz.prog 153 #[.pointer (some ⟨g, 0, none⟩), .string text, .agg #[.int .i64 k, .string s, .int .i64 n, .int .i64 p]] w fun e w' =>
      e = .returned (.tuple #[]) ∧ ∃ v', Blk w' g 138 #[.string src, .int .i64 (a + text.size : Nat), v'] ∧ w'.ownsRow g 55 4 v' (m + 1) (xs ++ [.int .i64 k, .string s, .int .i64 n, .int .i64 a]) ∧ Below g w w' := by
  obtain ⟨i0, hi0, hz0, hz1, hz2⟩ := info_parts Tryz.infoTok
  have hlt := hblk.lt
  have hval := lValid k n p s (w.alloc (.cells #[.int .i64 k, .string s, .int .i64 n, .int .i64 p] 55)) hs
  rw [hv] at hval
  have Hval := Lib.hid hval
  clear hval hv
  have Hblk := Lib.hid hblk; clear hblk
  go_enter Tryz.func153, Tryz.ntmps153
  go_wp2_with (go_at_call 131; refine (Hval.out).mono ?_)
  rintro e w1 ⟨rfl, hb⟩
  have hb1 : Blk w1 g 138 #[.string src, .int .i64 a, v] := ((Hblk.out).alloc _).below hb (by simp; omega)
  have hbx : Blk w1 w.heap.size 55 #[.int .i64 k, .string s, .int .i64 n, .int .i64 p] := (Blk.new w _ _).below hb (by simp)
  have hown1 : w1.ownsRow g 55 4 v m xs := own_below (hown.alloc _) hb
  have hsz1 : w.heap.size + 1 ≤ w1.heap.size := by have := hb.size; simpa using this
  have hbel1 : Below g w w1 := ((Below.refl _ _).alloc (by omega) _).trans (hb.mono (by simp; omega))
  have c0 := hb1.cell 0; have c1 := hb1.cell 1; have c2 := hb1.cell 2
  have f1 := hb1.free 1; have f2 := hb1.free 2
  have x0 := hbx.cell 0; have x1 := hbx.cell 1; have x2 := hbx.cell 2; have x3 := hbx.cell 3; have xf := hbx.free 3
  simp at c0 c1 c2 x0 x1 x2 x3
  have Hb := Lib.hid hb; have Hb1 := Lib.hid hb1; have Hbx := Lib.hid hbx; have Hbel1 := Lib.hid hbel1
  clear hb hb1 hbx hbel1
  have hgne : g ≠ w.heap.size := by omega
  go_wp2
  obtain ⟨w2, hw2⟩ : ∃ w2, w2 = w1.setCell ⟨w.heap.size, 3, none⟩ (.int .i64 a) := ⟨_, rfl⟩
  rw [← hw2]
  have hb2 : Blk w2 g 138 #[.string src, .int .i64 a, v] := by rw [hw2]; exact (Hb1.out).far hgne _
  have hbx2 : Blk w2 w.heap.size 55 #[.int .i64 k, .string s, .int .i64 n, .int .i64 a] := by rw [hw2]; exact (Hbx.out).set 3 _
  have hown2 : w2.ownsRow g 55 4 v m xs := by
    rw [hw2]
    refine own_setCell_far hown1 ?_ _
    intro hown0
    have := own_lt hown hown0
    simp at this
  have hbel2 : Below g w w2 := by rw [hw2]; exact (Hbel1.out).setCell (show g ≤ w.heap.size by omega) _
  have hsz2 : w.heap.size + 1 ≤ w2.heap.size := by rw [hw2]; simpa [World.setCell] using hsz1
  clear hw2 c0 c1 c2 f1 f2 x0 x1 x2 x3 xf hown1 hsz1
  have c0 := hb2.cell 0; have c1 := hb2.cell 1; have c2 := hb2.cell 2
  have f1 := hb2.free 1; have f2 := hb2.free 2
  have x0 := hbx2.cell 0; have x1 := hbx2.cell 1; have x2 := hbx2.cell 2; have x3 := hbx2.cell 3
  simp at c0 c1 c2 x0 x1 x2 x3
  have hvg := own_ne hown2 hb2 (by decide)
  have Hb2 := Lib.hid hb2; have Hbx2 := Lib.hid hbx2; have Hbel2 := Lib.hid hbel2
  clear hb2 hbx2 hbel2
  clear w1 Hb Hb1 Hbx Hbel1
  have c2' := ((Hb2.out).alloc (.cells #[.int .i64 k, .string s, .int .i64 n, .int .i64 a] 55)).cell 2
  simp at c2'
  go_region_law (refine step_append_lies _ rfl _ _ _ rfl g 55 i0 _ 4 40 Tryz.underlying51 hi0 hz0 hz1 hz2 rfl (by omega) v m xs rfl ((hown2.alloc _).drew) ⟨w2.heap.size, 0, none⟩ 1 1 [.int .i64 k, .string s, .int .i64 n, .int .i64 a] rfl rfl (World.news_of_block (cs := #[.int .i64 k, .string s, .int .i64 n, .int .i64 a]) (t := 55) (fr := (0, 0)) (heap_alloc_new w2 _)) (by simp [Value.oneCell']) (by omega) (by unfold maxLen; omega) (by omega) (by simp; omega) (w2.heap.size + 1) (by simp) ?_; intro gg cap w3 hown3 hgrow3 hat3 hlt3; have Hb3 := Lib.hid ((((Hb2.out).alloc (.cells #[.int .i64 k, .string s, .int .i64 n, .int .i64 a] 55)).drew).grown hgrow3 hvg); have c3 := Hb3.out.cell 2; have f3 := Hb3.out.free 2; have d3 := Hb3.out.cell 1; have e3 := Hb3.out.free 1; simp at c3 d3)
  all_goals go_wp2
  all_goals go_end0
  all_goals exact ⟨rfl, .slice (some ⟨gg, 0, none⟩) (m + 1) cap, add_end (by omega) Hbel2.out hgrow3 Hb3.out hown3 hvg hown2⟩

/-- How the scanner's functions end where a token is wrong. -/
def PanicAt (a : Nat) (e : Ending) : Prop := e = .panicked [{ v := .iface 131 (.int .i64 a), recovered := false }]

set_option maxHeartbeats 1000000 in
theorem lAddBad (g a : Nat) (src text s : ByteArray) (k n p : Int) (v : Value) (w : World)
    (hblk : Blk w g 138 #[.string src, .int .i64 a, v]) (hs : s.size ≤ maxLen)
    (hv : Lx.valid ⟨k, s.data.toList, n, p⟩ = false) :
    Calls Tryz.prog 153 #[.pointer (some ⟨g, 0, none⟩), .string text, .agg #[.int .i64 k, .string s, .int .i64 n, .int .i64 p]] w fun e w' => PanicAt a e ∧ Below w.heap.size w w' := by
  have hval := lValid k n p s (w.alloc (.cells #[.int .i64 k, .string s, .int .i64 n, .int .i64 p] 55)) hs
  rw [hv] at hval
  have Hval := Lib.hid hval
  clear hval hv
  have hlt := hblk.lt
  have Hblk := Lib.hid hblk; clear hblk
  go_enter Tryz.func153, Tryz.ntmps153
  go_wp2_with (go_at_call 131; refine (Hval.out).mono ?_)
  rintro e w1 ⟨rfl, hb⟩
  have hb1 : Blk w1 g 138 #[.string src, .int .i64 a, v] := ((Hblk.out).alloc _).below hb (by simp; omega)
  have c1 := hb1.cell 1
  simp at c1
  have Hb := Lib.hid hb
  clear hb hb1
  go_wp2
  refine ⟨rfl, rfl, ?_⟩
  exact ((Below.refl _ _).alloc (Nat.le_refl _) _).trans (Hb.out.mono (by simp))

set_option maxHeartbeats 1000000 in
theorem lWrong (g a : Nat) (src : ByteArray) (v : Value) (w : World) (hblk : Blk w g 138 #[.string src, .int .i64 a, v]) :
    Calls Tryz.prog 76 #[.pointer (some ⟨g, 0, none⟩)] w fun e w' => PanicAt a e ∧ w = w' := by
  have c1 := hblk.cell 1
  simp at c1
  go_enter Tryz.func76, Tryz.ntmps76
  go_wp2
  exact ⟨rfl, rfl, rfl⟩
end Go.Proofs.YtjonaidancomgaaGreatDoor

namespace Go.Proofs.YtjonaidancomgaaGreatDoor
open Go.RowKit

/-- Cells of a block from an offset on. -/
def CellsAt (w : World) (b o : Nat) (cs : List Value) : Prop := ∀ j v, cs[j]? = some v → w.cell? ⟨b, o + j, none⟩ = some v
def strV (x : List UInt8) : Value := .string (Lx.bs x)
def intV (n : Int) : Value := .int .i64 n

/-- A slice's address from which on the elements of l lie, in blocks of a set; P says which cells an element has. -/
structure Row {α : Type} (w : World) (S : Nat → Prop) (A : Option Addr) (sz : Nat) (P : α → List Value → Prop) (l : List α) : Prop where
  at_ : ∀ k x, l[k]? = some x → ∃ b o cs, A = some ⟨b, o, none⟩ ∧ S b ∧ P x cs ∧ CellsAt w b (o + k * sz) cs
  len : l.length ≤ 140737488351232

mutual
/-- The six cells of a rule. -/
def RuleAt (w : World) (S : Nat → Prop) : Sx.Rule → List Value → Prop
  | .mk op co nm n d ks, cs => ∃ A c, cs = [intV op, intV co, strV nm, intV n, intV d, .slice A ks.length c] ∧ nm.length ≤ 140737488351232 ∧ ks.length ≤ 140737488351232 ∧ KidsAt w S A 0 ks
/-- Kids from an index on. -/
def KidsAt (w : World) (S : Nat → Prop) : Option Addr → Nat → List Sx.Rule → Prop
  | _, _, [] => True
  | A, k, r :: rs => (∃ b o cs, A = some ⟨b, o, none⟩ ∧ S b ∧ RuleAt w S r cs ∧ CellsAt w b (o + k * 6) cs) ∧ KidsAt w S A (k + 1) rs
end
theorem CellsAt.keep {w w' : World} {b o : Nat} {cs : List Value} (h : CellsAt w b o cs) (hb : ∀ i, w'.cell? ⟨b, i, none⟩ = w.cell? ⟨b, i, none⟩) : CellsAt w' b o cs := fun j v hj => (hb _).trans (h j v hj)
mutual
theorem RuleAt.keep {w w' : World} {S S' : Nat → Prop} (hS : ∀ b, S b → S' b ∧ ∀ i, w'.cell? ⟨b, i, none⟩ = w.cell? ⟨b, i, none⟩) : ∀ (r : Sx.Rule) (cs : List Value), RuleAt w S r cs → RuleAt w' S' r cs
  | .mk op co nm n d ks, cs, h => by
    rw [RuleAt] at h ⊢
    obtain ⟨A, c, h1, h2, h3, h4⟩ := h
    exact ⟨A, c, h1, h2, h3, KidsAt.keep hS A 0 ks h4⟩
theorem KidsAt.keep {w w' : World} {S S' : Nat → Prop} (hS : ∀ b, S b → S' b ∧ ∀ i, w'.cell? ⟨b, i, none⟩ = w.cell? ⟨b, i, none⟩) : ∀ (A : Option Addr) (k : Nat) (rs : List Sx.Rule), KidsAt w S A k rs → KidsAt w' S' A k rs
  | _, _, [], _ => by rw [KidsAt]; trivial
  | A, k, r :: rs, h => by
    rw [KidsAt] at h ⊢
    obtain ⟨⟨b, o, cs, h1, h2, h3, h4⟩, h5⟩ := h
    exact ⟨⟨b, o, cs, h1, (hS b h2).1, RuleAt.keep hS r cs h3, h4.keep (hS b h2).2⟩, KidsAt.keep hS A (k + 1) rs h5⟩
end
theorem KidsAt.get {w : World} {S : Nat → Prop} : ∀ {A : Option Addr} {k : Nat} {rs : List Sx.Rule}, KidsAt w S A k rs → ∀ i x, rs[i]? = some x → ∃ b o cs, A = some ⟨b, o, none⟩ ∧ S b ∧ RuleAt w S x cs ∧ CellsAt w b (o + (k + i) * 6) cs
  | _, _, [], _, i, x, hi => by simp at hi
  | A, k, r :: rs, h, i, x, hi => by
    rw [KidsAt] at h
    cases i with
    | zero =>
      obtain rfl : r = x := by simpa using hi
      exact h.1
    | succ i =>
      have := KidsAt.get h.2 i x (by simpa using hi)
      rw [show k + 1 + i = k + (i + 1) by omega] at this
      exact this
theorem KidsAt.mk {w : World} {S : Nat → Prop} : ∀ {A : Option Addr} {k : Nat} {rs : List Sx.Rule}, (∀ i x, rs[i]? = some x → ∃ b o cs, A = some ⟨b, o, none⟩ ∧ S b ∧ RuleAt w S x cs ∧ CellsAt w b (o + (k + i) * 6) cs) → KidsAt w S A k rs
  | _, _, [], _ => by rw [KidsAt]; trivial
  | A, k, r :: rs, h => by
    rw [KidsAt]
    refine ⟨h 0 r rfl, KidsAt.mk fun i x hi => ?_⟩
    have := h (i + 1) x (by simpa using hi)
    rw [show k + (i + 1) = k + 1 + i by omega] at this
    exact this
/-- Kids as a row. -/
theorem kids_row {w : World} {S : Nat → Prop} {A : Option Addr} {rs : List Sx.Rule} : KidsAt w S A 0 rs ↔ ∀ i x, rs[i]? = some x → ∃ b o cs, A = some ⟨b, o, none⟩ ∧ S b ∧ RuleAt w S x cs ∧ CellsAt w b (o + i * 6) cs :=
  ⟨fun h i x hi => by have := h.get i x hi; rwa [Nat.zero_add] at this, fun h => KidsAt.mk fun i x hi => by rw [Nat.zero_add]; exact h i x hi⟩

theorem RuleAt.length {w : World} {S : Nat → Prop} {r : Sx.Rule} {cs : List Value} (h : RuleAt w S r cs) : cs.length = 6 := by
  cases r
  rw [RuleAt] at h
  obtain ⟨A, c, rfl, _⟩ := h
  rfl
theorem Row.keep {α : Type} {w w' : World} {S S' : Nat → Prop} {A : Option Addr} {sz : Nat} {P P' : α → List Value → Prop} {l : List α} (h : Row w S A sz P l) (hS : ∀ b, S b → S' b ∧ ∀ i, w'.cell? ⟨b, i, none⟩ = w.cell? ⟨b, i, none⟩) (hP : ∀ x ∈ l, ∀ cs, P x cs → P' x cs) : Row w' S' A sz P' l :=
  ⟨fun k x hk => by
    obtain ⟨b, o, cs, h1, h2, h3, h4⟩ := h.at_ k x hk
    exact ⟨b, o, cs, h1, (hS b h2).1, hP x (List.mem_of_getElem? hk) cs h3, h4.keep (hS b h2).2⟩, h.len⟩
theorem Row.nil {α : Type} (w : World) (S : Nat → Prop) (A : Option Addr) (sz : Nat) (P : α → List Value → Prop) : Row w S A sz P [] := ⟨fun k x h => by simp at h, by simp⟩

def CourseAt (w : World) (S : Nat → Prop) (x : Sx.Course) (cs : List Value) : Prop :=
  ∃ cn cb, cs = [strV x.name, intV x.number, intV x.credits, intV x.rep] ++ cn ++ cb ∧ x.name.length ≤ 140737488351232 ∧ RuleAt w S x.need cn ∧ RuleAt w S x.bar cb
def PairAt (x : Sx.Pair) (cs : List Value) : Prop := cs = [strV x.a, strV x.b, intV x.x, intV x.y] ∧ x.a.length ≤ 140737488351232 ∧ x.b.length ≤ 140737488351232
def OneAt {α : Type} (f : α → Value) (x : α) (cs : List Value) : Prop := cs = [f x]
def StrAt (x : List UInt8) (cs : List Value) : Prop := cs = [strV x] ∧ x.length ≤ 140737488351232
def ReqAt (w : World) (S : Nat → Prop) (x : Sx.Req) (cs : List Value) : Prop :=
  ∃ A c B d, cs = [strV x.name, intV x.credits, intV x.grade, .bool x.home, .slice A x.names.length c, .slice B x.froms.length d] ∧ x.name.length ≤ 140737488351232 ∧ Row w S A 1 StrAt x.names ∧ Row w S B 1 (OneAt intV) x.froms
def ProgAt (w : World) (S : Nat → Prop) (x : Sx.Prog) (cs : List Value) : Prop :=
  ∃ A c, cs = [strV x.name, intV x.number, intV x.uses, intV x.earn, intV x.mean.num, intV x.mean.den, .slice A x.reqs.length c] ∧ x.name.length ≤ 140737488351232 ∧ Row w S A 6 (ReqAt w S) x.reqs
def ClsAt (x : Sx.Cls) (cs : List Value) : Prop := cs = [strV x.name, intV x.earn, intV x.mean.num, intV x.mean.den] ∧ x.name.length ≤ 140737488351232
def FeeAt (x : Sx.Fee) (cs : List Value) : Prop := cs = [strV x.name, intV x.credits] ∧ x.name.length ≤ 140737488351232
def ClauseAt (x : Sx.Clause) (cs : List Value) : Prop := cs = [intV x.kind, intV x.when_, intV x.action, intV x.til]
/-- A catalogue's seven slices. -/
def CatAt (w : World) (S : Nat → Prop) (x : Sx.Cat) (cs : List Value) : Prop :=
  ∃ A0 c0 A1 c1 A2 c2 A3 c3 A4 c4 A5 c5 A6 c6, cs = [.slice A0 x.courses.length c0, .slice A1 x.same.length c1, .slice A2 x.progs.length c2, .slice A3 x.classes.length c3, .slice A4 x.fees.length c4, .slice A5 x.honours.length c5, .slice A6 x.clauses.length c6] ∧
    Row w S A0 16 (CourseAt w S) x.courses ∧ Row w S A1 4 PairAt x.same ∧ Row w S A2 7 (ProgAt w S) x.progs ∧ Row w S A3 4 ClsAt x.classes ∧ Row w S A4 2 FeeAt x.fees ∧ Row w S A5 4 ClsAt x.honours ∧ Row w S A6 4 ClauseAt x.clauses
section
variable {w w' : World} {S S' : Nat → Prop} (hS : ∀ b, S b → S' b ∧ ∀ i, w'.cell? ⟨b, i, none⟩ = w.cell? ⟨b, i, none⟩)
include hS
theorem CourseAt.keep {x : Sx.Course} {cs : List Value} (h : CourseAt w S x cs) : CourseAt w' S' x cs := by
  obtain ⟨cn, cb, h1, h2, h3, h4⟩ := h
  exact ⟨cn, cb, h1, h2, RuleAt.keep hS _ _ h3, RuleAt.keep hS _ _ h4⟩
theorem ReqAt.keep {x : Sx.Req} {cs : List Value} (h : ReqAt w S x cs) : ReqAt w' S' x cs := by
  obtain ⟨A, c, B, d, h1, h2, h3, h4⟩ := h
  exact ⟨A, c, B, d, h1, h2, h3.keep hS fun _ _ _ h => h, h4.keep hS fun _ _ _ h => h⟩
theorem ProgAt.keep {x : Sx.Prog} {cs : List Value} (h : ProgAt w S x cs) : ProgAt w' S' x cs := by
  obtain ⟨A, c, h1, h2, h3⟩ := h
  exact ⟨A, c, h1, h2, h3.keep hS fun _ _ _ h => ReqAt.keep hS h⟩
theorem CatAt.keep {x : Sx.Cat} {cs : List Value} (h : CatAt w S x cs) : CatAt w' S' x cs := by
  obtain ⟨A0, c0, A1, c1, A2, c2, A3, c3, A4, c4, A5, c5, A6, c6, h0, h1, h2, h3, h4, h5, h6, h7⟩ := h
  exact ⟨A0, c0, A1, c1, A2, c2, A3, c3, A4, c4, A5, c5, A6, c6, h0, h1.keep hS fun _ _ _ h => CourseAt.keep hS h, h2.keep hS fun _ _ _ h => h, h3.keep hS fun _ _ _ h => ProgAt.keep hS h, h4.keep hS fun _ _ _ h => h, h5.keep hS fun _ _ _ h => h, h6.keep hS fun _ _ _ h => h, h7.keep hS fun _ _ _ h => h⟩
end
end Go.Proofs.YtjonaidancomgaaGreatDoor
