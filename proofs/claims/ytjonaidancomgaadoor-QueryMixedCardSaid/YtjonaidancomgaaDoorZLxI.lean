/- Parts of the proof, joined into one text: LxI, LxJ, LxK, LxL, LxM. -/
import Derived.Test.YtjonaidancomgaaDoorZLxE
import Derived.Defers
import Derived.Recover
import Derived.Laws.EntriesVeiled
import Derived.Deep.LoopGhost
import Derived.Deep.OwnRows
import Derived.Lib.Join

namespace Go.Proofs.YtjonaidancomgaaDoor
open Go.RowKit
open Lx (Tok)

set_option maxHeartbeats 1000000 in
theorem lCatchIdle (p q r : Addr) (w : World) :
    CallsD Tryd.prog 36 #[.pointer (some p), .pointer (some q), .pointer (some r)] .returning w fun e u' w' => e = .returned (.tuple #[]) ∧ u' = .returning ∧ w' = w := by
  refine callsD_of_wpS Tryd.func36 rfl fun c₀ cs hu => ?_
  apply wpS_seq
  apply wpS_region
  simp [wpOpsS, go_sem, recoverD, hu, Tryd.ntmps36, Exit.thenS, Array.replicate_succ]
  refine wpS_of_wp ?_
  go_wp2
  cases c₀
  simp_all [bodyPostS, results, Tryd.results36]

theorem assert_place (n : Int) (w : World) : (Instr.typeAssert (.iface 94 (.int .i64 n)) 20 94 false).run Tryd.prog w = .ok (.int .i64 n) w := by kernel_rfl

set_option maxHeartbeats 1000000 in
theorem lCatch (N a : Nat) (x0 x1 x2 : Value) (w : World) (h0 : Blk w N 66 #[x0]) (h1 : Blk w (N + 1) 3 #[x1]) (h2 : Blk w (N + 2) 31 #[x2]) :
    CallsD Tryd.prog 36 #[.pointer (some ⟨N, 0, none⟩), .pointer (some ⟨N + 1, 0, none⟩), .pointer (some ⟨N + 2, 0, none⟩)] (.panicking [{ v := .iface 94 (.int .i64 a), recovered := false }]) w fun e u' w' =>
      e = .returned (.tuple #[]) ∧ u' = .panicking [{ v := .iface 94 (.int .i64 a), recovered := true }] ∧ Blk w' N 66 #[.slice none 0 0] ∧ Blk w' (N + 1) 3 #[.int .i64 a] ∧ Blk w' (N + 2) 31 #[.int .i64 90] ∧ Below N w w' := by
  refine callsD_of_wpS Tryd.func36 rfl fun c₀ cs hu => ?_
  apply wpS_seq
  apply wpS_region
  simp [wpOpsS, go_sem, recoverD, hu, Tryd.ntmps36, Exit.thenS, Array.replicate_succ]
  refine wpS_of_wp ?_
  have c0 := h0.cell 0; have c1 := h1.cell 0; have c2 := h2.cell 0
  have f0 := h0.free 0; have f1 := h1.free 0; have f2 := h2.free 0
  simp at c0 c1 c2
  have hta := assert_place
  go_wp2
  go_region
  refine ⟨rfl, _, rfl, .tuple #[], by simp [results, Tryd.results36], rfl, rfl, ?_, ?_, ?_, ?_⟩
  · have := (((h0.set 0 (.slice none 0 0)).far (p := ⟨N + 1, 0, none⟩) (by simp) (.int .i64 a)).far (p := ⟨N + 2, 0, none⟩) (by simp) (.int .i64 90)).drew
    simpa using this
  · have := (((h1.far (p := ⟨N, 0, none⟩) (by simp) (.slice none 0 0)).set 0 (.int .i64 a)).far (p := ⟨N + 2, 0, none⟩) (by simp) (.int .i64 90)).drew
    simpa using this
  · have := (((h2.far (p := ⟨N, 0, none⟩) (by simp) (.slice none 0 0)).far (p := ⟨N + 1, 0, none⟩) (by simp) (.int .i64 a)).set 0 (.int .i64 90)).drew
    simpa using this
  · exact ((((Below.refl N w).setCell (p := ⟨N, 0, none⟩) (Nat.le_refl _) _).setCell (p := ⟨N + 1, 0, none⟩) (show N ≤ N + 1 by omega) _).setCell (p := ⟨N + 2, 0, none⟩) (show N ≤ N + 2 by omega) _).drew

/-- What Lex returns: the tokens, or the place of the error. -/
def Lx.lexR (s : List UInt8) : Except Int (List Tok) := if 65536 < s.length then .error (-1) else match Lx.lex s with | .ok l => .ok l | .err p => .error p
def LexPost (s : List UInt8) (w : World) (e : Ending) (w' : World) : Prop :=
  Below w.heap.size w w' ∧
  if 65536 < s.length then e = .returned (.tuple #[.slice none 0 0, .int .i64 0, .int .i64 2]) else
  match Lx.lex s with
  | .ok l => ∃ A c, e = .returned (.tuple #[.slice A l.length c, .int .i64 0, .int .i64 0]) ∧ Toks w' w'.heap.size A l
  | .err p => e = .returned (.tuple #[.slice none 0 0, .int .i64 p, .int .i64 90])

/-- The same, with the slice's room. -/
def LexPostC (s : List UInt8) (w : World) (e : Ending) (w' : World) : Prop :=
  Below w.heap.size w w' ∧
  if 65536 < s.length then e = .returned (.tuple #[.slice none 0 0, .int .i64 0, .int .i64 2]) else
  match Lx.lex s with
  | .ok l => ∃ A c, e = .returned (.tuple #[.slice A l.length c, .int .i64 0, .int .i64 0]) ∧ Toks w' w'.heap.size A l ∧ l.length ≤ c
  | .err p => e = .returned (.tuple #[.slice none 0 0, .int .i64 p, .int .i64 90])
theorem LexPostC.weak {s : List UInt8} {w w' : World} {e : Ending} (h : LexPostC s w e w') : LexPost s w e w' := by
  unfold LexPostC at h
  unfold LexPost
  refine ⟨h.1, ?_⟩
  have h2 := h.2
  split
  · rename_i hs; rw [if_pos hs] at h2; exact h2
  · rename_i hs
    rw [if_neg hs] at h2
    cases hl : Lx.lex s with
    | ok l => rw [hl] at h2; obtain ⟨A, c, h3, h4, _⟩ := h2; exact ⟨A, c, h3, h4⟩
    | err p => rw [hl] at h2; exact h2
theorem own_cap {w : World} {base sz n c : Nat} {e : TypeId} {A : Option Addr} {xs : List Value} (h : w.ownsRow base e sz (.slice A n c) n xs) : n ≤ c := by
  rcases h.2 with ⟨hv, h0⟩ | ⟨g, cap, cur, hv, _, _, hc, _⟩
  · omega
  · injection hv with _ _ hv; omega

set_option maxHeartbeats 1000000 in
theorem lLexLong (s : ByteArray) (w : World) (hs : s.size ≤ maxLen) (h : 65536 < s.size) : Calls Tryd.prog 23 #[.string s] w (LexPostC s.data.toList w) := by
  unfold maxLen at hs
  go_enter Tryd.func23, Tryd.ntmps23
  go_wp2
  refine bodyPost_ret (v := .tuple #[.slice none 0 0, .int .i64 0, .int .i64 2]) (by simp [results, Tryd.results23, go_sem]) rfl ⟨?_, by rw [if_pos (by rw [Lx.ba_len]; omega)]⟩
  exact (((Below.refl _ _).alloc (Nat.le_refl _) _).alloc (by simp) _).alloc (by simp; omega) _

/-- The world in which Lex's loop begins: three result variables, the table of steps, the scanner. -/
def lexStart (s : ByteArray) (w : World) : World :=
  (((((w.alloc (Obj.cells #[Value.slice none 0 0] 66)).alloc (Obj.cells #[Value.int IntKind.i64 0] 3)).alloc
    (Obj.cells #[Value.int IntKind.i64 0] 31)).alloc
    (Obj.cells #[Value.func (Fn.func 37) #[] #[], Value.func (Fn.func 38) #[] #[], Value.func (Fn.func 39) #[] #[],
      Value.func (Fn.func 40) #[] #[], Value.func (Fn.func 41) #[] #[], Value.func (Fn.func 37) #[] #[]] 98)).alloc
    (Obj.cells #[Value.string s, Value.int IntKind.i64 0, Value.slice none 0 0] 101))

theorem Blk.new_at {t : TypeId} {cs : Array Value} (w : World) (n : Nat) (h : w.heap.size = n) : Blk (w.alloc (.cells cs t)) n t cs := by subst h; exact Blk.new w t cs
structure LexAt (s : ByteArray) (w : World) (wr : World) : Prop where
  b0 : Blk wr w.heap.size 66 #[.slice none 0 0]
  b1 : Blk wr (w.heap.size + 1) 3 #[.int .i64 0]
  b2 : Blk wr (w.heap.size + 1 + 1) 31 #[.int .i64 0]
  b3 : Blk wr (w.heap.size + 1 + 1 + 1) 98 #[.func (.func 37) #[] #[], .func (.func 38) #[] #[], .func (.func 39) #[] #[],
      .func (.func 40) #[] #[], .func (.func 41) #[] #[], .func (.func 37) #[] #[]]
  bel : Below w.heap.size w wr

theorem lexStart_at (s : ByteArray) (w : World) : LexAt s w (lexStart s w) := by
  refine ⟨?_, ?_, ?_, ?_, ?_⟩
  · exact ((((Blk.new_at w w.heap.size rfl).alloc _).alloc _).alloc _).alloc _
  · exact (((Blk.new_at (w.alloc _) (w.heap.size + 1) (by simp)).alloc _).alloc _).alloc _
  · exact ((Blk.new_at ((w.alloc _).alloc _) (w.heap.size + 1 + 1) (by simp)).alloc _).alloc _
  · exact (Blk.new_at (((w.alloc _).alloc _).alloc _) (w.heap.size + 1 + 1 + 1) (by simp)).alloc _
  · exact (((((Below.refl _ _).alloc (Nat.le_refl _) _).alloc (by simp) _).alloc (by simp; omega) _).alloc (by simp; omega) _).alloc (by simp; omega) _
theorem lexStart_scan (s : ByteArray) (w : World) (h : s.size ≤ 65536) : Scan (w.heap.size + 1 + 1 + 1 + 1) s 0 [] (lexStart s w) := by
  refine ⟨⟨.slice none 0 0, ?_, ?_⟩, by simp, by omega, h⟩
  · exact Blk.new_at ((((w.alloc _).alloc _).alloc _).alloc _) (w.heap.size + 1 + 1 + 1 + 1) (by simp)
  · exact ⟨by simp, .inl ⟨rfl, rfl⟩⟩
theorem LexAt.next {s : ByteArray} {w wr wr' : World} (h : LexAt s w wr) (hb : Below (w.heap.size + 1 + 1 + 1 + 1) wr wr') : LexAt s w wr' :=
  ⟨h.b0.below hb (by omega), h.b1.below hb (by omega), h.b2.below hb (by omega), h.b3.below hb (by omega), h.bel.trans (hb.mono (by omega))⟩

theorem own_form {w : World} {base : Nat} {e : TypeId} {size n : Nat} {v : Value} {xs : List Value} (h : w.ownsRow base e size v n xs) : ∃ A c, v = .slice A n c := by
  rcases h.2 with ⟨rfl, h0⟩ | ⟨g, cap, cur, rfl, _⟩
  · exact ⟨none, 0, by rw [h0]⟩
  · exact ⟨_, _, rfl⟩

def lexDefer (w : World) : List Deferred := [{ target := .fn (.func 36) #[.pointer (some ⟨w.heap.size, 0, none⟩), .pointer (some ⟨w.heap.size + 1, 0, none⟩), .pointer (some ⟨w.heap.size + 1 + 1, 0, none⟩)], args := #[] }]

theorem lex_panicked (s : ByteArray) (h : s.size ≤ 65536) (w w1 : World) (a : Nat) (tmps : Array Value) (h2 : tmps[2]? = some (.pointer (some ⟨w.heap.size, 0, none⟩))) (h3 : tmps[3]? = some (.pointer (some ⟨w.heap.size + 1, 0, none⟩))) (h4 : tmps[4]? = some (.pointer (some ⟨w.heap.size + 1 + 1, 0, none⟩)))
    (hA : LexAt s w w1) (hl : Lx.lex s.data.toList = .err a) :
    Leaves Tryd.prog Tryd.f23 tmps (LexPostC s.data.toList w) (lexDefer w) (.panicking [{ v := .iface 94 (.int .i64 a), recovered := false }]) w1 := by
  refine leaves_cons (f := 36) (args := #[.pointer (some ⟨w.heap.size, 0, none⟩), .pointer (some ⟨w.heap.size + 1, 0, none⟩), .pointer (some ⟨w.heap.size + 1 + 1, 0, none⟩)]) (by simp) (by simp [go_sem]) ?_
  refine (lCatch w.heap.size a _ _ _ w1 hA.b0 hA.b1 hA.b2).mono ?_
  rintro e u' w2 ⟨rfl, rfl, q0, q1, q2, hb⟩
  have c0 := q0.cell 0; have c1 := q1.cell 0; have c2 := q2.cell 0
  simp at c0 c1 c2
  refine ⟨.tuple #[.slice none 0 0, .int .i64 a, .int .i64 90], ?_, ?_⟩
  · simp [results, Tryd.results23, go_sem, h2, h3, h4, c0, c1, c2]
  · refine ⟨hA.bel.trans hb, ?_⟩
    rw [if_neg (by rw [Lx.ba_len]; omega), hl]

theorem flat_at : ∀ (l : List Tok) (k : Nat) (t : Tok) (j : Nat), l[k]? = some t → j < 4 → (l.flatMap Tok.cells)[k * 4 + j]? = t.cells[j]?
  | [], k, t, j, h, _ => by simp at h
  | x :: r, 0, t, j, h, hj => by
    simp at h
    subst h
    rw [List.flatMap_cons, List.getElem?_append_left (by simp [Tok.cells]; omega)]
    simp
  | x :: r, k + 1, t, j, h, hj => by
    rw [List.flatMap_cons, List.getElem?_append_right (by simp [Tok.cells]; omega)]
    simp only [List.getElem?_cons_succ] at h
    rw [← flat_at r k t j h hj]
    congr 1
    simp [Tok.cells]; omega
theorem toks_own {w : World} {base c : Nat} {A : Option Addr} {l : List Tok} (h : w.ownsRow base 110 4 (.slice A l.length c) l.length (l.flatMap Tok.cells)) (hl : l.length ≤ 65536) (ht : ∀ t ∈ l, t.text.length ≤ 65536) : Toks w w.heap.size A l := by
  refine ⟨fun k t hk => ?_, by omega, fun t h => by have := ht t h; omega⟩
  have hlt : k < l.length := (List.getElem?_eq_some_iff.1 hk).1
  obtain ⟨g, cap, hv, _, hg⟩ := h.form (by omega)
  injection hv with hA _ _
  subst hA
  have hcell := fun (j : Nat) (hj : j < 4) => (h.cellAt (g := g) (k * 4 + j) (by omega)).trans (flat_at l k t j hk hj)
  refine ⟨g, 0, rfl, hg, ?_, ?_, ?_, ?_⟩
  · have := hcell 0 (by omega); simp [Tok.cells] at this ⊢
  · have := hcell 1 (by omega); simp [Tok.cells, Lx.bs] at this ⊢
  · have := hcell 2 (by omega); simp [Tok.cells] at this ⊢
  · have := hcell 3 (by omega); simp [Tok.cells] at this ⊢

theorem lex_returned (s : ByteArray) (h : s.size ≤ 65536) (w w1 : World) (tmps : Array Value) (h2 : tmps[2]? = some (.pointer (some ⟨w.heap.size, 0, none⟩))) (h3 : tmps[3]? = some (.pointer (some ⟨w.heap.size + 1, 0, none⟩))) (h4 : tmps[4]? = some (.pointer (some ⟨w.heap.size + 1 + 1, 0, none⟩)))
    (A : Option Addr) (c : Nat) (l : List Tok) (q0 : Blk w1 w.heap.size 66 #[.slice A l.length c]) (q1 : Blk w1 (w.heap.size + 1) 3 #[.int .i64 0]) (q2 : Blk w1 (w.heap.size + 1 + 1) 31 #[.int .i64 0]) (hbel : Below w.heap.size w w1)
    (hT : Toks w1 w1.heap.size A l) (hc : l.length ≤ c) (hl : Lx.lex s.data.toList = .ok l) :
    Leaves Tryd.prog Tryd.f23 tmps (LexPostC s.data.toList w) (lexDefer w) .returning w1 := by
  refine leaves_cons (f := 36) (args := #[.pointer (some ⟨w.heap.size, 0, none⟩), .pointer (some ⟨w.heap.size + 1, 0, none⟩), .pointer (some ⟨w.heap.size + 1 + 1, 0, none⟩)]) (by simp) (by simp [go_sem]) ?_
  refine (lCatchIdle _ _ _ w1).mono ?_
  rintro e u' w2 ⟨rfl, rfl, rfl⟩
  have c0 := q0.cell 0; have c1 := q1.cell 0; have c2 := q2.cell 0
  simp at c0 c1 c2
  refine ⟨.tuple #[.slice A l.length c, .int .i64 0, .int .i64 0], ?_, ?_⟩
  · simp [results, Tryd.results23, go_sem, h2, h3, h4, c0, c1, c2]
  · refine ⟨hbel, ?_⟩
    rw [if_neg (by rw [Lx.ba_len]; omega), hl]
    exact ⟨A, c, rfl, hT, hc⟩
end Go.Proofs.YtjonaidancomgaaDoor

namespace Go.Proofs.YtjonaidancomgaaDoor
open Go.RowKit
open Lx (Tok)

set_option maxHeartbeats 2000000 in
theorem lLexShort (s : ByteArray) (w : World) (he : Env w) (h : s.size ≤ 65536) : Calls Tryd.prog 23 #[.string s] w (LexPostC s.data.toList w) := by
  have hmf : ∀ (fn : Fn) (first cap : Array Value) (w : World), (Instr.makeFunc fn first cap).run Tryd.prog w = .ok (.func fn first cap) w := fun _ _ _ _ => rfl
  have h7 : 6 + 1 ≤ w.heap.size := he.size
  go_enter_defers Tryd.func23, Tryd.ntmps23
  go_wp2
  obtain ⟨W, hW⟩ : ∃ W, W = lexStart s w := ⟨_, rfl⟩
  rw [show (((((w.alloc (Obj.cells #[Value.slice none 0 0] 66)).alloc (Obj.cells #[Value.int IntKind.i64 0] 3)).alloc
    (Obj.cells #[Value.int IntKind.i64 0] 31)).alloc
    (Obj.cells #[Value.func (Fn.func 37) #[] #[], Value.func (Fn.func 38) #[] #[], Value.func (Fn.func 39) #[] #[],
      Value.func (Fn.func 40) #[] #[], Value.func (Fn.func 41) #[] #[], Value.func (Fn.func 37) #[] #[]] 98)).alloc
    (Obj.cells #[Value.string s, Value.int IntKind.i64 0, Value.slice none 0 0] 101)) = W from hW.symm]
  have hA : LexAt s w W := hW ▸ lexStart_at s w
  have hS : Scan (w.heap.size + 1 + 1 + 1 + 1) s 0 [] W := hW ▸ lexStart_scan s w h
  clear hW
  go_loopg [16] (s.size) (fun k _ wr => ∃ a l, k + a = s.size ∧ Scan (w.heap.size + 1 + 1 + 1 + 1) s a l wr ∧ LexAt s w wr ∧ (Lx.lexAt (s.data.toList.drop a) a).app l = Lx.lex s.data.toList)
  case atStart => exact ⟨0, [], by omega, hS, hA, by rw [Lx.Res.app_nil]; rfl⟩
  case round =>
    obtain ⟨a, l, hka, hS', hA', hlex⟩ := hrel
    have Hlex := Lib.hid hlex; clear hlex
    obtain ⟨v, hblk, hown⟩ := hS'.st
    obtain ⟨A, cp, hv⟩ := own_form hown
    subst hv
    have c0 := hblk.cell 0; have c1 := hblk.cell 1; have c2 := hblk.cell 2
    simp at c0 c1 c2
    have t0 := hA'.b3.cell 0; have t1 := hA'.b3.cell 1; have t2 := hA'.b3.cell 2; have t3 := hA'.b3.cell 3; have t4 := hA'.b3.cell 4; have t5 := hA'.b3.cell 5
    simp at t0 t1 t2 t3 t4 t5
    have hEw : Env wr := he.next hA'.bel
    have Hblk := Lib.hid hblk; have HA := Lib.hid hA'; have HS := Lib.hid hS'; have HE := Lib.hid hEw
    have ha0 := hS'.at_
    clear hblk hA' hS' hEw hA hS
    by_cases hlt : a < s.size
    · have hdrop : s.data.toList.drop a = s[a] :: s.data.toList.drop (a + 1) := by
        rw [List.drop_eq_getElem_cons (by rw [Lx.ba_len]; exact hlt)]; rfl
      have Hdrop := Lib.hid hdrop; clear hdrop
      have hF := Lx.facts s[a]
      rcases Lx.cls_range s[a] with hc | hc | hc | hc | hc | hc
      · have herr := (Lx.err_lex l Hdrop.out (Lx.step_err (by rw [← hF.c1, hc]; rfl) (by rw [← hF.c2, hc]; rfl) (by rw [← hF.c3, hc]; rfl) (by rw [← hF.c4, hc]; rfl)))
        have Herr := Lib.hid herr; clear herr hF
        go_wp2_with (go_at_call 33; refine (lClass _ _).mono ?_; rintro e w' ⟨rfl, rfl⟩)
        refine (lWrong _ a s _ _ Hblk.out).mono ?_
        rintro e w1 ⟨he1, rfl⟩
        unfold PanicAt at he1
        subst he1
        exact lex_panicked s h w _ a _ rfl rfl rfl HA.out (Hlex.out.symm.trans Herr.out)
      · have hsp : Lx.space s[a] = true := by rw [← hF.c1, hc]; rfl
        obtain ⟨t, ht⟩ : ∃ t : ByteArray, t.data.toList = (s.data.toList.drop a).takeWhile Lx.space := ⟨Lx.bs _, Lx.bs_list _⟩
        have hpos : 0 < t.size := by rw [← Lx.ba_len, ht, Hdrop.out, List.takeWhile_cons, hsp]; simp
        have hsl := Lx.spaces_lex (D := s.data.toList) (a := a) l
        rw [← ht, Lx.ba_len] at hsl
        have hcall := lSpace1 _ a s l _ HS.out t ht
        have Hcall := Lib.hid hcall; have Hsl := Lib.hid hsl
        clear hcall hsl ht hF hsp
        go_wp2_with (go_at_call 33; refine (lClass _ _).mono ?_; rintro e w' ⟨rfl, rfl⟩)
        refine (Hcall.out).mono ?_
        rintro e w1 ⟨rfl, hS1, hb1⟩
        have HA1 := Lib.hid (HA.out.next hb1)
        have HS1 := Lib.hid hS1
        have hat1 := hS1.at_
        clear hS1 hb1
        go_wp2_with fail
        go_roundg (s.size - (a + t.size))
        case measure => omega
        case rel => exact ⟨a + t.size, l, by omega, HS1.out, HA1.out, Hsl.out.trans Hlex.out⟩
      · have hle : Lx.letter s[a] = true := by rw [← hF.c2, hc]; rfl
        obtain ⟨t, ht⟩ : ∃ t : ByteArray, t.data.toList = (s.data.toList.drop a).takeWhile Lx.part := ⟨Lx.bs _, Lx.bs_list _⟩
        have hpos : 0 < t.size := by rw [← Lx.ba_len, ht, Hdrop.out, List.takeWhile_cons, Lx.part_of_letter hle]; simp
        have hcall := lName1 _ a s l _ HS.out t ht hpos
        have hst := Lx.step_letter (r := s.data.toList.drop (a + 1)) hle
        rw [← Hdrop.out, ← ht] at hst
        cases hn : Lx.isName t.data.toList
        · have hE : Lx.nameEnd t.data.toList a l = none := by unfold Lx.nameEnd; rw [hn]; rfl
          rw [hn] at hst
          rw [hE] at hcall
          have Herr := Lib.hid (Lx.err_lex l Hdrop.out hst)
          have Hcall := Lib.hid hcall
          clear hcall hst ht hn hE hF hle
          go_wp2_with (go_at_call 33; refine (lClass _ _).mono ?_; rintro e w' ⟨rfl, rfl⟩)
          refine (Hcall.out).mono ?_
          rintro e w1 ⟨he1, hb1⟩
          unfold PanicAt at he1
          subst he1
          exact lex_panicked s h w _ a _ rfl rfl rfl (HA.out.next hb1) (Hlex.out.symm.trans Herr.out)
        · have hE : Lx.nameEnd t.data.toList a l = some (a + t.size, l ++ [⟨1, t.data.toList, 0, a⟩]) := by unfold Lx.nameEnd; rw [hn, Lx.ba_len]; rfl
          rw [hn, Lx.ba_len] at hst
          rw [hE] at hcall
          have Hok := Lib.hid (Lx.tok_lex l Hdrop.out hst)
          have Hcall := Lib.hid hcall
          clear hcall hst ht hn hE hF hle
          go_wp2_with (go_at_call 33; refine (lClass _ _).mono ?_; rintro e w' ⟨rfl, rfl⟩)
          refine (Hcall.out).mono ?_
          rintro e w1 ⟨rfl, hS1, hb1⟩
          have HA1 := Lib.hid (HA.out.next hb1)
          have HS1 := Lib.hid hS1
          have hat1 := hS1.at_
          clear hS1 hb1
          go_wp2_with fail
          go_roundg (s.size - (a + t.size))
          case measure => omega
          case rel => exact ⟨a + t.size, _, by omega, HS1.out, HA1.out, Hok.out.trans Hlex.out⟩
      · have hfi : Lx.figure s[a] = true := by rw [← hF.c3, hc]; rfl
        obtain ⟨t, ht⟩ : ∃ t : ByteArray, t.data.toList = (s.data.toList.drop a).takeWhile Lx.figure := ⟨Lx.bs _, Lx.bs_list _⟩
        have hpos : 0 < t.size := by rw [← Lx.ba_len, ht, Hdrop.out, List.takeWhile_cons, hfi]; simp
        have hcall := lNumber1 _ a s l _ HS.out HE.out (by omega) t ht hpos
        have hst := Lx.step_figure (r := s.data.toList.drop (a + 1)) hfi
        rw [← Hdrop.out, ← ht] at hst
        cases hn : Lx.number t.data.toList with
        | none =>
          have hE : Lx.numEnd t.data.toList a l = none := by unfold Lx.numEnd; rw [hn]
          rw [hn] at hst
          rw [hE] at hcall
          have Herr := Lib.hid (Lx.err_lex l Hdrop.out hst)
          have Hcall := Lib.hid hcall
          clear hcall hst ht hn hE hF hfi
          go_wp2_with (go_at_call 33; refine (lClass _ _).mono ?_; rintro e w' ⟨rfl, rfl⟩)
          refine (Hcall.out).mono ?_
          rintro e w1 ⟨he1, hb1⟩
          unfold PanicAt at he1
          subst he1
          exact lex_panicked s h w _ a _ rfl rfl rfl (HA.out.next hb1) (Hlex.out.symm.trans Herr.out)
        | some num =>
          have hE : Lx.numEnd t.data.toList a l = some (a + t.size, l ++ [⟨2, [], num, a⟩]) := by unfold Lx.numEnd; rw [hn, Lx.ba_len]
          rw [hn, Lx.ba_len] at hst
          rw [hE] at hcall
          have Hok := Lib.hid (Lx.tok_lex l Hdrop.out hst)
          have Hcall := Lib.hid hcall
          clear hcall hst ht hn hE hF hfi
          go_wp2_with (go_at_call 33; refine (lClass _ _).mono ?_; rintro e w' ⟨rfl, rfl⟩)
          refine (Hcall.out).mono ?_
          rintro e w1 ⟨rfl, hS1, hb1⟩
          have HA1 := Lib.hid (HA.out.next hb1)
          have HS1 := Lib.hid hS1
          have hat1 := hS1.at_
          clear hS1 hb1
          go_wp2_with fail
          go_roundg (s.size - (a + t.size))
          case measure => omega
          case rel => exact ⟨a + t.size, _, by omega, HS1.out, HA1.out, Hok.out.trans Hlex.out⟩
      · have hsi : Lx.sign s[a] = true := by rw [← hF.c4, hc]; rfl
        have hcall := lSign1 _ a s l _ HS.out hlt hsi
        cases hco : Lx.comment (s.data.toList.drop a)
        · have hE : Lx.signEnd (s.data.toList.drop a) a l = some (a + 1, l ++ [⟨3, [s[a]], 0, a⟩]) := by unfold Lx.signEnd; rw [hco, Hdrop.out]; rfl
          rw [hE] at hcall
          rw [Hdrop.out] at hco
          have Hok := Lib.hid (Lx.tok_lex l Hdrop.out (Lx.step_sign hsi hco))
          have Hcall := Lib.hid hcall
          clear hcall hco hE hF hsi
          go_wp2_with (go_at_call 33; refine (lClass _ _).mono ?_; rintro e w' ⟨rfl, rfl⟩)
          refine (Hcall.out).mono ?_
          rintro e w1 ⟨rfl, hS1, hb1⟩
          have HA1 := Lib.hid (HA.out.next hb1)
          have HS1 := Lib.hid hS1
          have hat1 := hS1.at_
          clear hS1 hb1
          go_wp2_with fail
          go_roundg (s.size - (a + 1))
          case measure => omega
          case rel => exact ⟨a + 1, _, by omega, HS1.out, HA1.out, Hok.out.trans Hlex.out⟩
        · have hE : Lx.signEnd (s.data.toList.drop a) a l = some (a + ((s.data.toList.drop a).takeWhile (· != 10)).length, l) := by unfold Lx.signEnd; rw [hco]; rfl
          rw [hE] at hcall
          have hst := Lx.step_comment (c := s[a]) (r := s.data.toList.drop (a + 1)) (by rw [← Hdrop.out]; exact hco)
          have hpos := Lx.step_skip_pos hst
          rw [← Hdrop.out] at hst hpos
          obtain ⟨k, hk⟩ : ∃ k, k = ((s.data.toList.drop a).takeWhile (· != 10)).length := ⟨_, rfl⟩
          rw [← hk] at hst hpos hcall
          have Hok := Lib.hid (Lx.skip_lex l Hdrop.out hst)
          have Hcall := Lib.hid hcall
          clear hcall hco hE hF hsi hst hk
          go_wp2_with (go_at_call 33; refine (lClass _ _).mono ?_; rintro e w' ⟨rfl, rfl⟩)
          refine (Hcall.out).mono ?_
          rintro e w1 ⟨rfl, hS1, hb1⟩
          have HA1 := Lib.hid (HA.out.next hb1)
          have HS1 := Lib.hid hS1
          have hat1 := hS1.at_
          clear hS1 hb1
          go_wp2_with fail
          go_roundg (s.size - (a + k))
          case measure => omega
          case rel => exact ⟨a + k, _, by omega, HS1.out, HA1.out, Hok.out.trans Hlex.out⟩
      · have herr := (Lx.err_lex l Hdrop.out (Lx.step_err (by rw [← hF.c1, hc]; rfl) (by rw [← hF.c2, hc]; rfl) (by rw [← hF.c3, hc]; rfl) (by rw [← hF.c4, hc]; rfl)))
        have Herr := Lib.hid herr; clear herr hF
        go_wp2_with (go_at_call 33; refine (lClass _ _).mono ?_; rintro e w' ⟨rfl, rfl⟩)
        refine (lWrong _ a s _ _ Hblk.out).mono ?_
        rintro e w1 ⟨he1, rfl⟩
        unfold PanicAt at he1
        subst he1
        exact lex_panicked s h w _ a _ rfl rfl rfl HA.out (Hlex.out.symm.trans Herr.out)
    · have q0 := HA.out.b0.cell 0; have q1 := HA.out.b1.cell 0; have q2 := HA.out.b2.cell 0
      have e0 := HA.out.b0.free 0; have e1 := HA.out.b1.free 0; have e2 := HA.out.b2.free 0
      simp at q0 q1 q2
      go_wp2
      have hB : a = s.size := by omega
      have hok : Lx.lex s.data.toList = .ok l := by
        rw [← Hlex.out, List.drop_of_length_le (by rw [Lx.ba_len]; omega), Lx.lexAt_nil]
        simp [Lx.Res.app]
      have B0 := ((HA.out.b0.set 0 (.slice A l.length cp)).far (p := ⟨w.heap.size + 1, 0, none⟩) (by simp) (.int .i64 0)).far (p := ⟨w.heap.size + 1 + 1, 0, none⟩) (by simp; omega) (.int .i64 0)
      have B1 := ((HA.out.b1.far (p := ⟨w.heap.size, 0, none⟩) (by simp) (.slice A l.length cp)).set 0 (.int .i64 0)).far (p := ⟨w.heap.size + 1 + 1, 0, none⟩) (by simp) (.int .i64 0)
      have B2 := ((HA.out.b2.far (p := ⟨w.heap.size, 0, none⟩) (by simp; omega) (.slice A l.length cp)).far (p := ⟨w.heap.size + 1, 0, none⟩) (by simp) (.int .i64 0)).set 0 (.int .i64 0)
      have n0 := own_ne hown HA.out.b0 (show 110 ≠ 66 by decide)
      have n1 := own_ne hown HA.out.b1 (show 110 ≠ 3 by decide)
      have n2 := own_ne hown HA.out.b2 (show 110 ≠ 31 by decide)
      have hO := own_setCell_far (p := ⟨w.heap.size + 1 + 1, 0, none⟩) (own_setCell_far (p := ⟨w.heap.size + 1, 0, none⟩) (own_setCell_far (p := ⟨w.heap.size, 0, none⟩) hown n0 (.slice A l.length cp)) n1 (.int .i64 0)) n2 (.int .i64 0)
      refine lex_returned s h w _ _ rfl rfl rfl A cp l (by simpa using B0) (by simpa using B1) (by simpa using B2) ?_ (toks_own hO (by have := HS.out.few; omega) fun t ht => by have := (Lx.lex_texts hok t ht).2; omega) (own_cap hO) hok
      exact ((HA.out.bel.setCell (p := ⟨w.heap.size, 0, none⟩) (Nat.le_refl _) _).setCell (p := ⟨w.heap.size + 1, 0, none⟩) (show w.heap.size ≤ w.heap.size + 1 by omega) _).setCell (p := ⟨w.heap.size + 1 + 1, 0, none⟩) (show w.heap.size ≤ w.heap.size + 1 + 1 by omega) _

/-- Lex, for every source. -/
theorem lLexC (s : ByteArray) (w : World) (hs : s.size ≤ maxLen) (he : Env w) : Calls Tryd.prog 23 #[.string s] w (LexPostC s.data.toList w) := by
  by_cases h : s.size ≤ 65536
  · exact lLexShort s w he h
  · exact lLexLong s w hs (by omega)
theorem lLex (s : ByteArray) (w : World) (hs : s.size ≤ maxLen) (he : Env w) : Calls Tryd.prog 23 #[.string s] w (LexPost s.data.toList w) := (lLexC s w hs he).mono fun _ _ h => h.weak
end Go.Proofs.YtjonaidancomgaaDoor

namespace Go.Proofs.YtjonaidancomgaaDoor
open Go.RowKit
open Lx (Tok)

theorem cell_alloc_old (w : World) (O : Obj) (b i : Nat) (h : b < w.heap.size) : (w.alloc O).cell? ⟨b, i, none⟩ = w.cell? ⟨b, i, none⟩ := World.cell?_alloc_lt w O ⟨b, i, none⟩ h

end Go.Proofs.YtjonaidancomgaaDoor

namespace Go.Proofs.YtjonaidancomgaaDoor
open Go.RowKit
open Lx (Tok)

theorem Tryd.infoStr : (Tryd.prog.info? 9).map (fun i => (i.zero, i.size, i.bytes)) = some (some (.string ⟨#[]⟩), 1, 16) := by kernel_rfl

theorem cJoin (bk o c : Nat) (xs : List ByteArray) (sep : ByteArray) (w : World) (hcells : ∀ (j : Nat) x, xs[j]? = some x → w.cell? ⟨bk, o + j, none⟩ = some (.string x)) (hbk : bk < w.heap.size) (hN : xs.length ≤ 140737488355328) (hcap : xs.length ≤ c) (hlen : (Lib.join (xs.map (·.data.toList)) sep.data.toList).length ≤ 140737488355328) :
    Calls Tryd.prog 52 #[.slice (some ⟨bk, o, none⟩) xs.length c, .string sep] w fun e w' => e = .returned (.string ⟨(Lib.join (xs.map (·.data.toList)) sep.data.toList).toArray⟩) ∧ Below w.heap.size w w' :=
  Any.strings_Join Tryd.lays156 Tryd.Builder_Extra_156 bk o c xs sep w hcells hbk hN hcap hlen

def TextPost (l : List Tok) (w : World) (e : Ending) (w' : World) : Prop :=
  Below w.heap.size w w' ∧ match Lx.text l with
    | some s => e = .returned (.tuple #[.string (Lx.bs s), .int .i64 0])
    | none => e = .returned (.tuple #[.string ⟨#[]⟩, .int .i64 90])

theorem Lx.text_none {l : List Tok} {k : Nat} {x : Tok} (hx : l[k]? = some x) (h : Lx.valid x = false) : Lx.text l = none := by
  unfold Lx.text
  rw [if_neg]
  intro ha
  rw [List.all_eq_true] at ha
  rw [ha x (List.mem_of_getElem? hx)] at h
  cases h
theorem Lx.text_some {l : List Tok} (h : ∀ (j : Nat) (t : Tok), l[j]? = some t → Lx.valid t = true) : Lx.text l = some (Lx.joinSp (l.map Tok.out)) := by
  unfold Lx.text
  rw [if_pos]
  rw [List.all_eq_true]
  intro t ht
  obtain ⟨j, hj⟩ := List.mem_iff_getElem?.1 ht
  exact h j t hj
theorem Lx.join_sp : ∀ xs : List (List UInt8), Lib.join xs [32] = Lx.joinSp xs
  | [] => rfl
  | [x] => by rw [Lib.join_one]; rfl
  | x :: y :: r => by
    rw [Lib.join_cons]
    have ih := Lx.join_sp (y :: r)
    rw [Lib.join_cons] at ih
    simp only [Lx.joinSp, ← ih]
    simp [Lib.joinTail]
theorem Lx.valid_num {t : Tok} (h : Lx.valid t = true) (hk : t.kind = 2) : 0 ≤ t.n ∧ t.n ≤ 1099511627776 := by
  unfold Lx.valid at h
  rw [hk] at h
  simp at h
  omega
theorem Lx.digits_len (u : Nat) (h : u ≤ 1099511627776) : (Lib.decDigits u).length ≤ 13 := by
  rw [Lib.decDigits_length]
  by_cases h0 : u = 0
  · subst h0; rw [Lib.nDigits_small (by omega)]; omega
  rcases Nat.lt_or_ge (Lib.nDigits u) 14 with hn | hn
  · omega
  exfalso
  have : ∀ (k u : Nat), k + 1 ≤ Lib.nDigits u → u ≠ 0 → 10 ^ k ≤ u := by
    intro k
    induction k with
    | zero => intro u _ h0; simp; omega
    | succ k ih =>
      intro u hk h0
      by_cases hu : u < 10
      · rw [Lib.nDigits_small hu] at hk; omega
      · rw [Lib.nDigits_big hu] at hk
        have := ih (u / 10) (by omega) (by omega)
        rw [Nat.pow_succ]; omega
  have h13 := this 13 u (by omega) h0
  have e : (10 : Nat) ^ 13 = 10000000000000 := by decide
  omega
theorem Lx.valid_out {t : Tok} (h : Lx.valid t = true) : t.out.length ≤ 32 := by
  unfold Tok.out
  split
  · rename_i hk
    obtain ⟨h1, h2⟩ := Lx.valid_num h hk
    have := Lx.digits_len t.n.toNat (by omega)
    omega
  · rename_i hk
    unfold Lx.valid at h
    split at h
    · simp only [Bool.and_eq_true, Lx.isName] at h
      have h1 := h.1
      split at h1
      · cases h1
      · rename_i e
        simp only [Bool.and_eq_true, decide_eq_true_eq] at h1
        rw [e] at h1 ⊢
        exact h1.1.1
    · split at h
      · simp only [Bool.and_eq_true] at h
        have h1 := h.1
        split at h1
        · rename_i e; rw [e]; simp
        · cases h1
      · cases h
theorem Lx.joinSp_len : ∀ xs : List (List UInt8), (∀ x ∈ xs, x.length ≤ 32) → (Lx.joinSp xs).length ≤ 33 * xs.length
  | [], _ => by simp [Lx.joinSp]
  | [x], h => by have := h x (by simp); simp [Lx.joinSp]; omega
  | x :: y :: r, h => by
    have h1 := h x (by simp)
    have ih := Lx.joinSp_len (y :: r) (fun z hz => h z (List.mem_cons_of_mem _ hz))
    simp only [Lx.joinSp, List.length_append, List.length_cons] at ih ⊢
    omega

theorem text_step {l : List Tok} {k m : Nat} {x : Tok} {cs : Array Value} {u : List UInt8} (hcs : cs.size = m) (hk : k < m) (hh : ∀ (j : Nat) (t : Tok), j < k → l[j]? = some t → cs[j]? = some (.string (Lx.bs t.out)) ∧ Lx.valid t = true)
    (hx : l[k]? = some x) (hu : x.out = u) (hv : Lx.valid x = true) : ∀ (j : Nat) (t : Tok), j < k + 1 → l[j]? = some t → (cs.setIfInBounds k (.string (Lx.bs u)))[j]? = some (.string (Lx.bs t.out)) ∧ Lx.valid t = true := by
  intro j t hj ht
  rcases Nat.lt_or_ge j k with h | h
  · obtain ⟨h1, h2⟩ := hh j t h ht
    exact ⟨by rw [Array.getElem?_setIfInBounds_ne (by omega)]; exact h1, h2⟩
  · obtain rfl : j = k := by omega
    rw [hx] at ht
    obtain rfl := Option.some.inj ht
    exact ⟨by rw [Array.getElem?_setIfInBounds_self_of_lt (by omega), hu], hv⟩

set_option maxHeartbeats 1000000 in
theorem lText (A : Option Addr) (c : Nat) (l : List Tok) (w : World) (he : Env w) (h : Toks w w.heap.size A l) (hl : l.length ≤ 65536) :
    Calls Tryd.prog 28 #[.slice A l.length c] w (TextPost l w) := by
  have hmk := fun W => run_make_row' (P := Tryd.prog) 22 9 (.string ⟨#[]⟩) 16 Tryd.underlying22 Tryd.infoStr rfl .i64 .i64 l.length (by omega) (by omega) W
  obtain ⟨m, hm⟩ : ∃ m, m = l.length := ⟨_, rfl⟩
  rw [← hm] at hmk ⊢
  have hml : m ≤ l.length := by omega
  have hlm : l.length ≤ m := by omega
  have Hm := Lib.hid hm; clear hm
  obtain ⟨cs0, hcs0⟩ : ∃ cs0, cs0 = madeCells #[.string ⟨#[]⟩] m := ⟨_, rfl⟩
  have hcs0s : cs0.size = m := by rw [hcs0, size_madeCells]
  rw [← hcs0] at hmk
  have Hcs0 := Lib.hid hcs0s
  clear hcs0 hcs0s
  go_enter Tryd.func28, Tryd.ntmps28
  go_wp2
  go_loopw [12] (fun i wr => ∃ (k : Nat) (cs : Array Value), k ≤ m ∧ i = .int .i64 k ∧ Blk wr w.heap.size 9 cs ∧ cs.size = m ∧ (∀ (j : Nat) (t : Tok), j < k → l[j]? = some t → cs[j]? = some (.string (Lx.bs t.out)) ∧ Lx.valid t = true) ∧ Below w.heap.size w wr)
    (fun i _ => m - (intOf i).toNat)
  case atStart => exact ⟨0, cs0, by omega, rfl, Blk.new _ _ _, Hcs0.out, fun j t hj => absurd hj (by omega), (Below.refl _ _).alloc (Nat.le_refl _) _⟩
  case round =>
    obtain ⟨k, cs, hk, rfl, hblk, hcs, hh, hbel⟩ := hrel
    have H := h.below hbel (Nat.le_refl _)
    have hsz := hblk.lt
    have hEw := he.next hbel
    have Hh := Lib.hid hh; have Hblk := Lib.hid hblk; have Hbel := Lib.hid hbel; have Hcs := Lib.hid hcs; have HE := Lib.hid hEw
    clear hh hblk hbel hcs hEw hmk
    by_cases hlt : k < m
    · obtain ⟨x, hx⟩ : ∃ x, l[k]? = some x := ⟨_, List.getElem?_eq_getElem (by omega)⟩
      obtain ⟨b, o, rfl, hb, h4⟩ := H.at_ k x hx
      have hxl := h.texts x (List.mem_of_getElem? hx)
      obtain ⟨p1, p2, p3, p4⟩ := h4
      have hval := fun W => lValid x.kind x.n x.pos (Lx.bs x.text) W (by rw [Lx.bs_size]; unfold maxLen; omega)
      rw [Lx.bs_list] at hval
      have hne1 : b < wr.heap.size := by omega
      have Hx := Lib.hid hx; have HH := Lib.hid H
      clear hx H
      cases hs : Lx.valid x
      · have hval' : ∀ W, Calls Tryd.prog 50 #[.agg #[.int .i64 x.kind, .string (Lx.bs x.text), .int .i64 x.n, .int .i64 x.pos]] W fun e w' => e = .returned (.bool false) ∧ Below W.heap.size W w' := by rw [← hs]; exact hval
        have Hval := Lib.hid hval'
        have Hs := Lib.hid hs
        clear hval hval' hs
        go_wp2_with fail
        refine (Hval.out _).mono ?_
        rintro e w1 ⟨rfl, hb1⟩
        have Hb1 := Lib.hid hb1; clear hb1
        go_wp2_with fail
        go_ret2
        refine ⟨Hbel.out.trans (((Below.refl _ _).alloc (by omega) _).trans (Hb1.out.mono (by simp; omega))), ?_⟩
        rw [Lx.text_none Hx.out Hs.out]
        rfl
      · have hval' : ∀ W, Calls Tryd.prog 50 #[.agg #[.int .i64 x.kind, .string (Lx.bs x.text), .int .i64 x.n, .int .i64 x.pos]] W fun e w' => e = .returned (.bool true) ∧ Below W.heap.size W w' := by rw [← hs]; exact hval
        have Hval := Lib.hid hval'
        have Hs := Lib.hid hs
        clear hval hval' hs
        go_wp2_with fail
        refine (Hval.out _).mono ?_
        rintro e w1 ⟨rfl, hb1⟩
        have hbx := (Blk.new wr 110 #[.int .i64 x.kind, .string (Lx.bs x.text), .int .i64 x.n, .int .i64 x.pos]).below hb1 (by simp)
        have x0 := hbx.cell 0; have x1 := hbx.cell 1; have x2 := hbx.cell 2
        simp at x0 x1 x2
        have hbw := ((Hblk.out).alloc (.cells #[.int .i64 x.kind, .string (Lx.bs x.text), .int .i64 x.n, .int .i64 x.pos] 110)).below hb1 (by simp; omega)
        have y0 := hbw.cell k
        have y1 := hbw.free k
        have Hb1 := Lib.hid hb1; have Hbw := Lib.hid hbw
        clear hb1 hbx hbw
        by_cases h2 : x.kind = 2
        · obtain ⟨hn0, hn1⟩ := Lx.valid_num Hs.out h2
          have h2' : (x.kind == 2) = true := beq_iff_eq.2 h2
          have hio := fun W (hE : Env W) => cItoa x.n (by omega) (by omega) W hE
          have hout : (⟨(Lib.itoa x.n).toArray⟩ : ByteArray) = Lx.bs x.out := by
            unfold Tok.out Lib.itoa
            rw [if_pos h2, if_neg (by omega)]; rfl
          rw [hout] at hio
          have HE1 := Lib.hid ((HE.out.next ((Below.refl _ _).alloc (Nat.le_refl _) (.cells #[.int .i64 x.kind, .string (Lx.bs x.text), .int .i64 x.n, .int .i64 x.pos] 110))).next Hb1.out)
          have Hio := Lib.hid hio
          clear hio hout h2
          obtain ⟨cv, hcv⟩ : ∃ cv, cs[k]? = some cv := ⟨_, Array.getElem?_eq_getElem (by rw [Hcs.out]; omega)⟩
          rw [hcv] at y0
          clear hcv
          go_wp2_with fail
          refine (Hio.out _ HE1.out).mono ?_
          rintro e w2 ⟨rfl, hb2⟩
          have hw1 := Hbw.out.lt
          have hbw2 := Hbw.out.below hb2 (by omega)
          have hcell := hbw2.cell k
          have hfree := hbw2.free k
          rw [← Hbw.out.cell k, y0] at hcell
          have Hb2 := Lib.hid hb2; have Hbw2 := Lib.hid hbw2
          clear hb2 hbw2 x0 x1 x2 y0 y1
          go_wp2_with fail
          go_roundw
          case rel => exact ⟨k + 1, _, by omega, by go_num, Hbw2.out.set k _, by rw [Array.size_setIfInBounds]; exact Hcs.out, text_step Hcs.out hlt Hh.out Hx.out rfl Hs.out,
            ((Hbel.out.trans (((Below.refl _ _).alloc (by omega) _).trans (Hb1.out.mono (by simp; omega)))).trans (Hb2.out.mono (by omega))).setCell (show w.heap.size ≤ w.heap.size from Nat.le_refl _) _⟩
          case measure => simp [intOf]; omega
        · have h2' : (x.kind == 2) = false := beq_eq_false_iff_ne.2 h2
          have H2 := Lib.hid h2; clear h2
          obtain ⟨cv, hcv⟩ : ∃ cv, cs[k]? = some cv := ⟨_, Array.getElem?_eq_getElem (by rw [Hcs.out]; omega)⟩
          rw [hcv] at y0
          clear hcv
          go_wp2_with fail
          go_roundw
          case rel => exact ⟨k + 1, _, by omega, by go_num, Hbw.out.set k _, by rw [Array.size_setIfInBounds]; exact Hcs.out, text_step Hcs.out hlt Hh.out Hx.out (by unfold Tok.out; rw [if_neg H2.out]) Hs.out,
            (Hbel.out.trans (((Below.refl _ _).alloc (by omega) _).trans (Hb1.out.mono (by simp; omega)))).setCell (show w.heap.size ≤ w.heap.size from Nat.le_refl _) _⟩
          case measure => simp [intOf]; omega
    · obtain rfl : k = m := by omega
      have hall : ∀ (j : Nat) (t : Tok), l[j]? = some t → Lx.valid t = true := fun j t hj => (Hh.out j t (by have := (List.getElem?_eq_some_iff.1 hj).1; omega) hj).2
      have htx := Lx.text_some hall
      have hcells : ∀ (j : Nat) x, (l.map fun t => Lx.bs t.out)[j]? = some x → wr.cell? ⟨w.heap.size, 0 + j, none⟩ = some (.string x) := fun j x hj => by
        rw [List.getElem?_map] at hj
        obtain ⟨t, ht, rfl⟩ := Option.map_eq_some_iff.1 hj
        rw [Hblk.out.cell, Nat.zero_add]
        exact (Hh.out j t (by have := (List.getElem?_eq_some_iff.1 ht).1; omega) ht).1
      have hmap : ((l.map fun t => Lx.bs t.out).map (·.data.toList)) = l.map Tok.out := by
        rw [List.map_map]; exact List.map_congr_left fun t _ => Lx.bs_list _
      have hjn : Lib.join ((l.map fun t => Lx.bs t.out).map (·.data.toList)) (⟨#[32]⟩ : ByteArray).data.toList = Lx.joinSp (l.map Tok.out) := by rw [hmap]; exact Lx.join_sp _
      have hjl : (Lx.joinSp (l.map Tok.out)).length ≤ 33 * l.length := by
        have := Lx.joinSp_len (l.map Tok.out) (fun x hx => by
          obtain ⟨t, ht, rfl⟩ := List.mem_map.1 hx
          obtain ⟨j, hj⟩ := List.mem_iff_getElem?.1 ht
          exact Lx.valid_out (hall j t hj))
        rwa [List.length_map] at this
      have hcall := cJoin w.heap.size 0 k (l.map fun t => Lx.bs t.out) ⟨#[32]⟩ wr hcells (by omega) (by rw [List.length_map]; omega) (by rw [List.length_map]; omega) (by rw [hjn]; omega)
      rw [hjn, List.length_map, ← Hm.out] at hcall
      have Hcall := Lib.hid hcall; have Htx := Lib.hid htx
      clear hcall htx hjn hjl hcells hmap hall
      go_wp2_with fail
      refine (Hcall.out).mono ?_
      rintro e w1 ⟨rfl, hb1⟩
      have Hb1 := Lib.hid hb1; clear hb1
      go_wp2_with fail
      go_ret2
      refine ⟨Hbel.out.trans (Hb1.out.mono (by omega)), ?_⟩
      rw [Htx.out]
      rfl
end Go.Proofs.YtjonaidancomgaaDoor

namespace Go.Proofs.YtjonaidancomgaaDoor
open Go.RowKit
open Lx (Tok)

theorem lLexOk (s : ByteArray) (l : List Tok) (w : World) (he : Env w) (hs : s.size ≤ 65536) (hl : Lx.lex s.data.toList = .ok l) :
    Calls Tryd.prog 23 #[.string s] w fun e w' => ∃ A c, e = .returned (.tuple #[.slice A l.length c, .int .i64 0, .int .i64 0]) ∧ Toks w' w'.heap.size A l ∧ Below w.heap.size w w' ∧ Env w' := by
  refine (lLexShort s w he hs).mono fun e w' ⟨hb, h⟩ => ?_
  rw [if_neg (by rw [Lx.ba_len]; omega), hl] at h
  obtain ⟨A, c, h1, h2, _⟩ := h
  exact ⟨A, c, h1, h2, hb, he.next hb⟩
theorem lLexErr (s : ByteArray) (p : Nat) (w : World) (he : Env w) (hs : s.size ≤ 65536) (hl : Lx.lex s.data.toList = .err p) :
    Calls Tryd.prog 23 #[.string s] w fun e w' => e = .returned (.tuple #[.slice none 0 0, .int .i64 p, .int .i64 90]) ∧ Below w.heap.size w w' ∧ Env w' := by
  refine (lLexShort s w he hs).mono fun e w' ⟨hb, h⟩ => ?_
  rw [if_neg (by rw [Lx.ba_len]; omega), hl] at h
  exact ⟨h, hb, he.next hb⟩
theorem lTextOk (A : Option Addr) (c : Nat) (l : List Tok) (s : List UInt8) (w : World) (he : Env w) (h : Toks w w.heap.size A l) (hl : l.length ≤ 65536) (ht : Lx.text l = some s) :
    Calls Tryd.prog 28 #[.slice A l.length c] w fun e w' => e = .returned (.tuple #[.string (Lx.bs s), .int .i64 0]) ∧ Below w.heap.size w w' ∧ Env w' := by
  refine (lText A c l w he h hl).mono fun e w' ⟨hb, h⟩ => ?_
  rw [ht] at h
  exact ⟨h, hb, he.next hb⟩
theorem lTextErr (A : Option Addr) (c : Nat) (l : List Tok) (w : World) (he : Env w) (h : Toks w w.heap.size A l) (hl : l.length ≤ 65536) (ht : Lx.text l = none) :
    Calls Tryd.prog 28 #[.slice A l.length c] w fun e w' => e = .returned (.tuple #[.string ⟨#[]⟩, .int .i64 90]) ∧ Below w.heap.size w w' ∧ Env w' := by
  refine (lText A c l w he h hl).mono fun e w' ⟨hb, h⟩ => ?_
  rw [ht] at h
  exact ⟨h, hb, he.next hb⟩

theorem toks_new (w : World) (l : List Tok) (cs : Array Value) (h : cs.toList = l.flatMap Tok.cells) (hl : l.length ≤ 65536) (ht : ∀ t ∈ l, t.text.length ≤ 65536) :
    Toks (w.alloc (.cells cs 110)) (w.alloc (.cells cs 110)).heap.size (some ⟨w.heap.size, 0, none⟩) l := by
  refine ⟨fun k t hk => ?_, by omega, fun t h => by have := ht t h; omega⟩
  have hb := Blk.new w 110 cs
  have hcell := fun (j : Nat) (hj : j < 4) => (hb.cell (k * 4 + j)).trans (show cs[k * 4 + j]? = t.cells[j]? by rw [← Array.getElem?_toList, h]; exact flat_at l k t j hk hj)
  refine ⟨w.heap.size, 0, rfl, by simp, ?_, ?_, ?_, ?_⟩
  · have := hcell 0 (by omega); simp [Tok.cells] at this ⊢; exact this
  · have := hcell 1 (by omega); simp [Tok.cells, Lx.bs] at this ⊢; exact this
  · have := hcell 2 (by omega); simp [Tok.cells] at this ⊢; exact this
  · have := hcell 3 (by omega); simp [Tok.cells] at this ⊢; exact this
theorem Toks.first {w : World} {B : Nat} {A : Option Addr} {t : Tok} {l : List Tok} (h : Toks w B A (t :: l)) : ∃ b o, A = some ⟨b, o, none⟩ ∧ b < B ∧ w.cell? ⟨b, o, none⟩ = some (.int .i64 t.kind) ∧ w.cell? ⟨b, o + 1, none⟩ = some (.string (Lx.bs t.text)) ∧ w.cell? ⟨b, o + 2, none⟩ = some (.int .i64 t.n) ∧ w.cell? ⟨b, o + 3, none⟩ = some (.int .i64 t.pos) := by
  obtain ⟨b, o, h1, h2, h3⟩ := h.at_ 0 t rfl
  exact ⟨b, o, h1, h2, by simpa using h3.kind, by simpa using h3.text, by simpa using h3.n, by simpa using h3.pos⟩

def sA : ByteArray := ⟨#[101, 97, 114, 110, 32, 51, 48, 59]⟩
def tA : List Tok := [⟨1, [101, 97, 114, 110], 0, 0⟩, ⟨2, [], 30, 5⟩, ⟨3, [59], 0, 7⟩]
theorem exA : Lx.lex sA.data.toList = .ok tA := by decide +kernel
theorem exB : Lx.lex (⟨#[48, 48, 55]⟩ : ByteArray).data.toList = .err 0 := by decide +kernel
theorem exC : Lx.lex (⟨#[49, 48, 57, 57, 53, 49, 49, 54, 50, 55, 55, 55, 54]⟩ : ByteArray).data.toList = .ok [⟨2, [], 1099511627776, 0⟩] := by decide +kernel
theorem exD : Lx.lex (⟨#[97, 32, 47, 47, 32, 98]⟩ : ByteArray).data.toList = .ok [⟨1, [97], 0, 0⟩] := by decide +kernel
theorem exE : Lx.lex (⟨#[97, 32, 36]⟩ : ByteArray).data.toList = .err 2 := by decide +kernel
theorem exF : Lx.lex (⟨#[97, 61, 49]⟩ : ByteArray).data.toList = .ok [⟨1, [97], 0, 0⟩, ⟨3, [61], 0, 1⟩, ⟨2, [], 1, 2⟩] := by decide +kernel
theorem exG : Lx.lex (⟨#[]⟩ : ByteArray).data.toList = .ok [] := by decide +kernel
theorem exT : Lx.text [⟨1, [97], 0, 0⟩, ⟨3, [61], 0, 1⟩, ⟨2, [], 1, 2⟩] = some [97, 32, 61, 32, 49] := by
  have h1 : Lib.decDigits 1 = [49] := by rw [Lib.decDigits_one (by omega)]; rfl
  have h2 : ([⟨1, [97], 0, 0⟩, ⟨3, [61], 0, 1⟩, ⟨2, [], 1, 2⟩] : List Tok).all Lx.valid = true := by decide +kernel
  unfold Lx.text
  rw [if_pos h2]
  show some ([97] ++ 32 :: ([61] ++ 32 :: Lib.decDigits 1)) = _
  rw [h1]; rfl
theorem exZ : Lx.text [⟨0, [], 0, 0⟩] = none := by decide +kernel
theorem exN1 : Lx.isName [66, 95, 49, 50] = true := by decide +kernel
theorem exN2 : Lx.isName [95, 49, 50] = false := by decide +kernel

end Go.Proofs.YtjonaidancomgaaDoor
