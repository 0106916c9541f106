/- Tokens written with any white space and comments between them are lexed as these tokens: plain laws. No program here. -/
import Derived.Test.YtocelmjncjompaaDoorLxGap
namespace Go.Proofs.YtocelmjncjompaaDoor.Lx

/-- What lexing passes over. -/
def Void (g : List UInt8) : Prop := ∀ rest p, lexAt (g ++ rest) p = lexAt rest (p + g.length)
theorem void_nil : Void [] := fun _ _ => rfl
theorem void_app {a b : List UInt8} (ha : Void a) (hb : Void b) : Void (a ++ b) := fun rest p => by
  rw [List.append_assoc, ha, hb, List.length_append, Nat.add_assoc]
theorem void_space {c : UInt8} (h : space c = true) : Void [c] := fun _rest p => lexAt_skip (step_space h) p
theorem tw_line : ∀ (x r : List UInt8), (∀ c ∈ x, c ≠ 10) → (x ++ 10 :: r).takeWhile (· != 10) = x
  | [], r, _ => rfl
  | c :: x, r, h => by
    rw [List.cons_append, List.takeWhile_cons, if_pos (bne_iff_ne.2 (h c (by simp))), tw_line x r fun d hd => h d (List.mem_cons_of_mem _ hd)]
theorem void_comment (x : List UInt8) (h : ∀ c ∈ x, c ≠ 10) : Void (47 :: 47 :: (x ++ [10])) := fun rest p => by
  have e : 47 :: 47 :: (x ++ [10]) ++ rest = 47 :: 47 :: (x ++ 10 :: rest) := by simp
  have hx : ∀ c ∈ (47 :: 47 :: x : List UInt8), c ≠ 10 := by
    intro c hc
    rcases List.mem_cons.1 hc with rfl | hc
    · decide
    · rcases List.mem_cons.1 hc with rfl | hc
      · decide
      · exact h c hc
  have ht : (47 :: 47 :: (x ++ 10 :: rest)).takeWhile (· != 10) = 47 :: 47 :: x := tw_line (47 :: 47 :: x) rest hx
  have hs := step_comment (c := 47) (r := 47 :: (x ++ 10 :: rest)) rfl
  rw [ht] at hs
  rw [e, lexAt_skip hs]
  have hd : (47 :: 47 :: (x ++ 10 :: rest)).drop (47 :: 47 :: x).length = 10 :: rest := by
    show (x ++ 10 :: rest).drop x.length = 10 :: rest
    exact List.drop_left
  rw [hd, lexAt_skip (step_space rfl), List.drop_one, List.tail_cons]
  simp only [List.length_cons, List.length_append, List.length_nil]
  congr 1

/-- The eight ways between two tokens. -/
def ways (x : List UInt8) : List (List UInt8) := [[32], [9], [10], [13, 10], [32, 32], 47 :: 47 :: (x ++ [10]), [32, 47, 47, 32, 10], [10, 47, 47, 10]]
theorem ways_void {x : List UInt8} (h : ∀ c ∈ x, c ≠ 10) : ∀ g ∈ ways x, Void g := by
  intro g hg
  unfold ways at hg
  simp only [List.mem_cons, List.not_mem_nil, or_false] at hg
  have s32 := void_space (c := 32) rfl
  have s10 := void_space (c := 10) rfl
  rcases hg with rfl | rfl | rfl | rfl | rfl | rfl | rfl | rfl
  · exact s32
  · exact void_space rfl
  · exact s10
  · exact void_app (void_space (c := 13) rfl) s10
  · exact void_app s32 s32
  · exact void_comment x h
  · exact void_app s32 (void_comment [32] (by intro c hc; simp at hc; subst hc; decide))
  · exact void_app s10 (void_comment [] (by simp))
theorem ways_len {x : List UInt8} (h : x.length ≤ 100) : ∀ g ∈ ways x, g.length ≤ 103 := by
  intro g hg
  unfold ways at hg
  simp only [List.mem_cons, List.not_mem_nil, or_false] at hg
  rcases hg with rfl | rfl | rfl | rfl | rfl | rfl | rfl | rfl <;> simp <;> omega

/-- A text of the first tokens, with what stands between them. -/
structure Row (l : List Tok) (k : Nat) (P : List UInt8) : Prop where
  lexed : ∃ ms, (∀ rest, lexAt (P ++ rest) 0 = (lexAt rest P.length).app ms) ∧ same (l.take k) ms = true
  len : P.length ≤ 1 + k * 137
theorem row_nil (l : List Tok) : Row l 0 [10] := ⟨⟨[], fun rest => by rw [Res.app_nil]; exact lexAt_skip (step_space rfl) 0, rfl⟩, by simp⟩
theorem same_snoc : ∀ (a b : List Tok) (x y : Tok), same a b = true → same1 x y = true → same (a ++ [x]) (b ++ [y]) = true
  | [], [], x, y, _, h => by simp [same, h]
  | [], _ :: _, _, _, h, _ => by simp [same] at h
  | _ :: _, [], _, _, h, _ => by simp [same] at h
  | a :: r, b :: s, x, y, h, h1 => by
    simp only [same, Bool.and_eq_true] at h
    simp only [List.cons_append, same, h.1, same_snoc r s x y h.2 h1, Bool.and_self]
theorem row_next {l : List Tok} {k : Nat} {P g : List UInt8} {t : Tok} (h : Row l k P) (ht : l[k]? = some t) (hv : valid t = true) (hg : Void g) (hgl : g.length ≤ 103) : Row l (k + 1) (P ++ (t.out ++ [32] ++ g)) := by
  obtain ⟨⟨ms, h1, h2⟩, h3⟩ := h
  have ho := valid_out hv
  refine ⟨⟨ms ++ [{ t with pos := (P.length : Int) }], fun rest => ?_, ?_⟩, ?_⟩
  · have e : P ++ (t.out ++ [32] ++ g) ++ rest = P ++ (t.out ++ 32 :: (g ++ rest)) := by simp
    rw [e, h1, lexAt_word hv (sep_space rfl), Res.app_cons, lexAt_skip (step_space rfl), List.drop_one, List.tail_cons, hg]
    simp only [List.length_append, List.length_cons, List.length_nil]
    congr 2
    omega
  · rw [List.take_add_one, ht]
    exact same_snoc _ _ _ _ h2 (same1_pos t _)
  · simp only [List.length_append, List.length_cons, List.length_nil]
    omega
theorem row_all {l : List Tok} {P : List UInt8} (h : Row l l.length P) : ∃ ms, lex P = .ok ms ∧ same l ms = true := by
  obtain ⟨⟨ms, h1, h2⟩, _⟩ := h
  have := h1 []
  rw [List.append_nil, lexAt_nil] at this
  refine ⟨ms, ?_, by rw [List.take_length] at h2; exact h2⟩
  unfold lex
  rw [this]
  simp [Res.app]
theorem text_one {t : Tok} : text [t] = if valid t then some t.out else none := by
  unfold text
  simp only [List.all_cons, List.all_nil, Bool.and_true, List.map_cons, List.map_nil, joinSp]
theorem filter_ne {x : List UInt8} : ∀ c ∈ x.filter (· != 10), c ≠ 10 := fun _c hc => bne_iff_ne.1 (List.mem_filter.1 hc).2
end Go.Proofs.YtocelmjncjompaaDoor.Lx
