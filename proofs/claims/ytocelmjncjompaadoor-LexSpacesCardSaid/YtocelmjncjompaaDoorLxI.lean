/- Walks: Lex's deferred function, and Lex. -/
import Derived.Test.YtocelmjncjompaaDoorLxH
import Derived.Defers
import Derived.Recover
import Derived.Laws.EntriesVeiled
import Derived.Deep.LoopGhost
namespace Go.Proofs.YtocelmjncjompaaDoor
open Go.RowKit
open Lx (Tok)

set_option maxHeartbeats 1000000 in
theorem lCatchIdle (p q r : Addr) (w : World) :
    CallsD Tryd.prog 34 #[.pointer (some p), .pointer (some q), .pointer (some r)] .returning w fun e u' w' => e = .returned (.tuple #[]) ∧ u' = .returning ∧ w' = w := by
  refine callsD_of_wpS Tryd.func34 rfl fun c₀ cs hu => ?_
  apply wpS_seq
  apply wpS_region
  simp [wpOpsS, go_sem, recoverD, hu, Tryd.ntmps34, Exit.thenS, Array.replicate_succ]
  refine wpS_of_wp ?_
  go_wp2
  cases c₀
  simp_all [bodyPostS, results, Tryd.results34]

theorem assert_place (n : Int) (w : World) : (Instr.typeAssert (.iface 56 (.int .i64 n)) 20 56 false).run Tryd.prog w = .ok (.int .i64 n) w := by kernel_rfl

set_option maxHeartbeats 1000000 in
theorem lCatch (N a : Nat) (x0 x1 x2 : Value) (w : World) (h0 : Blk w N 23 #[x0]) (h1 : Blk w (N + 1) 3 #[x1]) (h2 : Blk w (N + 2) 24 #[x2]) :
    CallsD Tryd.prog 34 #[.pointer (some ⟨N, 0, none⟩), .pointer (some ⟨N + 1, 0, none⟩), .pointer (some ⟨N + 2, 0, none⟩)] (.panicking [{ v := .iface 56 (.int .i64 a), recovered := false }]) w fun e u' w' =>
      e = .returned (.tuple #[]) ∧ u' = .panicking [{ v := .iface 56 (.int .i64 a), recovered := true }] ∧ Blk w' N 23 #[.slice none 0 0] ∧ Blk w' (N + 1) 3 #[.int .i64 a] ∧ Blk w' (N + 2) 24 #[.int .i64 90] ∧ Below N w w' := by
  refine callsD_of_wpS Tryd.func34 rfl fun c₀ cs hu => ?_
  apply wpS_seq
  apply wpS_region
  simp [wpOpsS, go_sem, recoverD, hu, Tryd.ntmps34, Exit.thenS, Array.replicate_succ]
  refine wpS_of_wp ?_
  have c0 := h0.cell 0; have c1 := h1.cell 0; have c2 := h2.cell 0
  have f0 := h0.free 0; have f1 := h1.free 0; have f2 := h2.free 0
  simp at c0 c1 c2
  have hta := assert_place
  go_wp2
  go_region
  refine ⟨rfl, _, rfl, .tuple #[], by simp [results, Tryd.results34], rfl, rfl, ?_, ?_, ?_, ?_⟩
  · have := (((h0.set 0 (.slice none 0 0)).far (p := ⟨N + 1, 0, none⟩) (by simp) (.int .i64 a)).far (p := ⟨N + 2, 0, none⟩) (by simp) (.int .i64 90)).drew
    simpa using this
  · have := (((h1.far (p := ⟨N, 0, none⟩) (by simp) (.slice none 0 0)).set 0 (.int .i64 a)).far (p := ⟨N + 2, 0, none⟩) (by simp) (.int .i64 90)).drew
    simpa using this
  · have := (((h2.far (p := ⟨N, 0, none⟩) (by simp) (.slice none 0 0)).far (p := ⟨N + 1, 0, none⟩) (by simp) (.int .i64 a)).set 0 (.int .i64 90)).drew
    simpa using this
  · exact ((((Below.refl N w).setCell (p := ⟨N, 0, none⟩) (Nat.le_refl _) _).setCell (p := ⟨N + 1, 0, none⟩) (show N ≤ N + 1 by omega) _).setCell (p := ⟨N + 2, 0, none⟩) (show N ≤ N + 2 by omega) _).drew

/-- What Lex returns: the tokens, or the place of the error. -/
def Lx.lexR (s : List UInt8) : Except Int (List Tok) := if 65536 < s.length then .error (-1) else match Lx.lex s with | .ok l => .ok l | .err p => .error p
def LexPost (s : List UInt8) (w : World) (e : Ending) (w' : World) : Prop :=
  Below w.heap.size w w' ∧
  if 65536 < s.length then e = .returned (.tuple #[.slice none 0 0, .int .i64 0, .int .i64 2]) else
  match Lx.lex s with
  | .ok l => ∃ A c, e = .returned (.tuple #[.slice A l.length c, .int .i64 0, .int .i64 0]) ∧ Toks w' w'.heap.size A l
  | .err p => e = .returned (.tuple #[.slice none 0 0, .int .i64 p, .int .i64 90])

set_option maxHeartbeats 1000000 in
theorem lLexLong (s : ByteArray) (w : World) (hs : s.size ≤ maxLen) (h : 65536 < s.size) : Calls Tryd.prog 15 #[.string s] w (LexPost s.data.toList w) := by
  unfold maxLen at hs
  go_enter Tryd.func15, Tryd.ntmps15
  go_wp2
  refine bodyPost_ret (v := .tuple #[.slice none 0 0, .int .i64 0, .int .i64 2]) (by simp [results, Tryd.results15, go_sem]) rfl ⟨?_, by rw [if_pos (by rw [Lx.ba_len]; omega)]⟩
  exact (((Below.refl _ _).alloc (Nat.le_refl _) _).alloc (by simp) _).alloc (by simp; omega) _

/-- The world in which Lex's loop begins: three result variables, the table of steps, the scanner. -/
def lexStart (s : ByteArray) (w : World) : World :=
  (((((w.alloc (Obj.cells #[Value.slice none 0 0] 23)).alloc (Obj.cells #[Value.int IntKind.i64 0] 3)).alloc
    (Obj.cells #[Value.int IntKind.i64 0] 24)).alloc
    (Obj.cells #[Value.func (Fn.func 35) #[] #[], Value.func (Fn.func 36) #[] #[], Value.func (Fn.func 37) #[] #[],
      Value.func (Fn.func 38) #[] #[], Value.func (Fn.func 39) #[] #[], Value.func (Fn.func 35) #[] #[]] 60)).alloc
    (Obj.cells #[Value.string s, Value.int IntKind.i64 0, Value.slice none 0 0] 63))

theorem Blk.new_at {t : TypeId} {cs : Array Value} (w : World) (n : Nat) (h : w.heap.size = n) : Blk (w.alloc (.cells cs t)) n t cs := by subst h; exact Blk.new w t cs
structure LexAt (s : ByteArray) (w : World) (wr : World) : Prop where
  b0 : Blk wr w.heap.size 23 #[.slice none 0 0]
  b1 : Blk wr (w.heap.size + 1) 3 #[.int .i64 0]
  b2 : Blk wr (w.heap.size + 1 + 1) 24 #[.int .i64 0]
  b3 : Blk wr (w.heap.size + 1 + 1 + 1) 60 #[.func (.func 35) #[] #[], .func (.func 36) #[] #[], .func (.func 37) #[] #[],
      .func (.func 38) #[] #[], .func (.func 39) #[] #[], .func (.func 35) #[] #[]]
  bel : Below w.heap.size w wr

theorem lexStart_at (s : ByteArray) (w : World) : LexAt s w (lexStart s w) := by
  refine ⟨?_, ?_, ?_, ?_, ?_⟩
  · exact ((((Blk.new_at w w.heap.size rfl).alloc _).alloc _).alloc _).alloc _
  · exact (((Blk.new_at (w.alloc _) (w.heap.size + 1) (by simp)).alloc _).alloc _).alloc _
  · exact ((Blk.new_at ((w.alloc _).alloc _) (w.heap.size + 1 + 1) (by simp)).alloc _).alloc _
  · exact (Blk.new_at (((w.alloc _).alloc _).alloc _) (w.heap.size + 1 + 1 + 1) (by simp)).alloc _
  · exact (((((Below.refl _ _).alloc (Nat.le_refl _) _).alloc (by simp) _).alloc (by simp; omega) _).alloc (by simp; omega) _).alloc (by simp; omega) _
theorem lexStart_scan (s : ByteArray) (w : World) (h : s.size ≤ 65536) : Scan (w.heap.size + 1 + 1 + 1 + 1) s 0 [] (lexStart s w) := by
  refine ⟨⟨.slice none 0 0, ?_, ?_⟩, by simp, by omega, h⟩
  · exact Blk.new_at ((((w.alloc _).alloc _).alloc _).alloc _) (w.heap.size + 1 + 1 + 1 + 1) (by simp)
  · exact ⟨by simp, .inl ⟨rfl, rfl⟩⟩
theorem LexAt.next {s : ByteArray} {w wr wr' : World} (h : LexAt s w wr) (hb : Below (w.heap.size + 1 + 1 + 1 + 1) wr wr') : LexAt s w wr' :=
  ⟨h.b0.below hb (by omega), h.b1.below hb (by omega), h.b2.below hb (by omega), h.b3.below hb (by omega), h.bel.trans (hb.mono (by omega))⟩

theorem own_form {w : World} {base : Nat} {e : TypeId} {size n : Nat} {v : Value} {xs : List Value} (h : w.ownsRow base e size v n xs) : ∃ A c, v = .slice A n c := by
  rcases h.2 with ⟨rfl, h0⟩ | ⟨g, cap, cur, rfl, _⟩
  · exact ⟨none, 0, by rw [h0]⟩
  · exact ⟨_, _, rfl⟩

def lexDefer (w : World) : List Deferred := [{ target := .fn (.func 34) #[.pointer (some ⟨w.heap.size, 0, none⟩), .pointer (some ⟨w.heap.size + 1, 0, none⟩), .pointer (some ⟨w.heap.size + 1 + 1, 0, none⟩)], args := #[] }]

theorem lex_panicked (s : ByteArray) (h : s.size ≤ 65536) (w w1 : World) (a : Nat) (tmps : Array Value) (h2 : tmps[2]? = some (.pointer (some ⟨w.heap.size, 0, none⟩))) (h3 : tmps[3]? = some (.pointer (some ⟨w.heap.size + 1, 0, none⟩))) (h4 : tmps[4]? = some (.pointer (some ⟨w.heap.size + 1 + 1, 0, none⟩)))
    (hA : LexAt s w w1) (hl : Lx.lex s.data.toList = .err a) :
    Leaves Tryd.prog Tryd.f15 tmps (LexPost s.data.toList w) (lexDefer w) (.panicking [{ v := .iface 56 (.int .i64 a), recovered := false }]) w1 := by
  refine leaves_cons (f := 34) (args := #[.pointer (some ⟨w.heap.size, 0, none⟩), .pointer (some ⟨w.heap.size + 1, 0, none⟩), .pointer (some ⟨w.heap.size + 1 + 1, 0, none⟩)]) (by simp) (by simp [go_sem]) ?_
  refine (lCatch w.heap.size a _ _ _ w1 hA.b0 hA.b1 hA.b2).mono ?_
  rintro e u' w2 ⟨rfl, rfl, q0, q1, q2, hb⟩
  have c0 := q0.cell 0; have c1 := q1.cell 0; have c2 := q2.cell 0
  simp at c0 c1 c2
  refine ⟨.tuple #[.slice none 0 0, .int .i64 a, .int .i64 90], ?_, ?_⟩
  · simp [results, Tryd.results15, go_sem, h2, h3, h4, c0, c1, c2]
  · refine ⟨hA.bel.trans hb, ?_⟩
    rw [if_neg (by rw [Lx.ba_len]; omega), hl]

theorem flat_at : ∀ (l : List Tok) (k : Nat) (t : Tok) (j : Nat), l[k]? = some t → j < 4 → (l.flatMap Tok.cells)[k * 4 + j]? = t.cells[j]?
  | [], k, t, j, h, _ => by simp at h
  | x :: r, 0, t, j, h, hj => by
    simp at h
    subst h
    rw [List.flatMap_cons, List.getElem?_append_left (by simp [Tok.cells]; omega)]
    simp
  | x :: r, k + 1, t, j, h, hj => by
    rw [List.flatMap_cons, List.getElem?_append_right (by simp [Tok.cells]; omega)]
    simp only [List.getElem?_cons_succ] at h
    rw [← flat_at r k t j h hj]
    congr 1
    simp [Tok.cells]; omega
theorem toks_own {w : World} {base c : Nat} {A : Option Addr} {l : List Tok} (h : w.ownsRow base 35 4 (.slice A l.length c) l.length (l.flatMap Tok.cells)) (hl : l.length ≤ 65536) (ht : ∀ t ∈ l, t.text.length ≤ 65536) : Toks w w.heap.size A l := by
  refine ⟨fun k t hk => ?_, by omega, fun t h => by have := ht t h; omega⟩
  have hlt : k < l.length := (List.getElem?_eq_some_iff.1 hk).1
  obtain ⟨g, cap, hv, _, hg⟩ := h.form (by omega)
  injection hv with hA _ _
  subst hA
  have hcell := fun (j : Nat) (hj : j < 4) => (h.cellAt (g := g) (k * 4 + j) (by omega)).trans (flat_at l k t j hk hj)
  refine ⟨g, 0, rfl, hg, ?_, ?_, ?_, ?_⟩
  · have := hcell 0 (by omega); simp [Tok.cells] at this ⊢
  · have := hcell 1 (by omega); simp [Tok.cells, Lx.bs] at this ⊢
  · have := hcell 2 (by omega); simp [Tok.cells] at this ⊢
  · have := hcell 3 (by omega); simp [Tok.cells] at this ⊢

theorem lex_returned (s : ByteArray) (h : s.size ≤ 65536) (w w1 : World) (tmps : Array Value) (h2 : tmps[2]? = some (.pointer (some ⟨w.heap.size, 0, none⟩))) (h3 : tmps[3]? = some (.pointer (some ⟨w.heap.size + 1, 0, none⟩))) (h4 : tmps[4]? = some (.pointer (some ⟨w.heap.size + 1 + 1, 0, none⟩)))
    (A : Option Addr) (c : Nat) (l : List Tok) (q0 : Blk w1 w.heap.size 23 #[.slice A l.length c]) (q1 : Blk w1 (w.heap.size + 1) 3 #[.int .i64 0]) (q2 : Blk w1 (w.heap.size + 1 + 1) 24 #[.int .i64 0]) (hbel : Below w.heap.size w w1)
    (hT : Toks w1 w1.heap.size A l) (hl : Lx.lex s.data.toList = .ok l) :
    Leaves Tryd.prog Tryd.f15 tmps (LexPost s.data.toList w) (lexDefer w) .returning w1 := by
  refine leaves_cons (f := 34) (args := #[.pointer (some ⟨w.heap.size, 0, none⟩), .pointer (some ⟨w.heap.size + 1, 0, none⟩), .pointer (some ⟨w.heap.size + 1 + 1, 0, none⟩)]) (by simp) (by simp [go_sem]) ?_
  refine (lCatchIdle _ _ _ w1).mono ?_
  rintro e u' w2 ⟨rfl, rfl, rfl⟩
  have c0 := q0.cell 0; have c1 := q1.cell 0; have c2 := q2.cell 0
  simp at c0 c1 c2
  refine ⟨.tuple #[.slice A l.length c, .int .i64 0, .int .i64 0], ?_, ?_⟩
  · simp [results, Tryd.results15, go_sem, h2, h3, h4, c0, c1, c2]
  · refine ⟨hbel, ?_⟩
    rw [if_neg (by rw [Lx.ba_len]; omega), hl]
    exact ⟨A, c, rfl, hT⟩
end Go.Proofs.YtocelmjncjompaaDoor
