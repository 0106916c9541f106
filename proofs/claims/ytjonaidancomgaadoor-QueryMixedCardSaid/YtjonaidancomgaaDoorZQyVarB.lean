/- Parts of the proof, joined into one text: QyVarB, QyArg, QyLoc. -/
import Derived.Test.YtjonaidancomgaaDoorZQyParB

namespace Go.Proofs.YtjonaidancomgaaDoor
open Go.RowKit Go.Maps Go.WideMaps

theorem pst_name {g B mb b o c cN gg cap : Nat} {last : Int} {t : Lx.Tok} {r : List Lx.Tok} {names : List (List UInt8)} {shown : List Int} {atoms : List Qy.Atom} {tests : List Qy.Test} {w w2 : World} {vS vA vT : Value} {AN : Option Addr} {ob : Obj}
    (hb : Blk w g 73 #[.slice (some ⟨b, o, none⟩) (r.length + 1) c, .int .i64 last, .map (some mb), .slice AN names.length cN, .slice none 0 0, vS, vA, vT]) (hT : Toks w B (some ⟨b, o, none⟩) (t :: r)) (ho : POwn g names shown atoms tests (.slice AN names.length cN) vS vA vT w)
    (hk : KindsAt w mb) (hm : mb < g) (hB : B ≤ g) (hf : names.length + 1 ≤ 8) (htx : ∀ t ∈ names, t.length ≤ 140737488351232)
    (hgrow : (w.alloc ob).grownBy w2 (Value.slice AN names.length cN).ownBlock) (hat : (Value.slice AN names.length cN).ownBlock = some gg ∨ gg = w.heap.size + 1) (hown : w2.ownsRow g 9 1 (.slice (some ⟨gg, 0, none⟩) (names.length + 1) cap) (names.length + 1) (names.flatMap strC ++ [.string (Lx.bs t.text)])) :
    Blk w2 g 73 #[.slice (some ⟨b, o, none⟩) (r.length + 1) c, .int .i64 last, .map (some mb), .slice AN names.length cN, .slice none 0 0, vS, vA, vT] ∧
    ∀ b1 o1 c1, (r ≠ [] → b1 = b ∧ o1 = o + 4) → r.length ≤ c1 →
      PSt g B mb last ⟨r, names ++ [t.text], shown, atoms, tests⟩ ((w2.setCell ⟨g, 3, none⟩ (.slice (some ⟨gg, 0, none⟩) (names.length + 1) cap)).setCell ⟨g, 0, none⟩ (.slice (some ⟨b1, o1, none⟩) r.length c1)) ∧
      Fr g w ((w2.setCell ⟨g, 3, none⟩ (.slice (some ⟨gg, 0, none⟩) (names.length + 1) cap)).setCell ⟨g, 0, none⟩ (.slice (some ⟨b1, o1, none⟩) r.length c1)) := by
  obtain ⟨hb2, hT2, hk2, hbel⟩ := grow_rest hb hT hk hm hB ho.n (by decide) ((Below.refl _ w).alloc (Nat.le_refl _) ob) hgrow rfl
  refine ⟨hb2, fun b1 o1 c1 h1 hc => ?_⟩
  have e1 : ([t.text] : List (List UInt8)).flatMap strC = [.string (Lx.bs t.text)] := rfl
  have hown' : w2.ownsRow g 9 1 (.slice (some ⟨gg, 0, none⟩) (names.length + 1) cap) (names ++ [t.text]).length ((names ++ [t.text]).flatMap strC) := by
    rw [List.flatMap_append, e1, List.length_append]; exact hown
  have ho2 : POwn g (names ++ [t.text]) shown atoms tests (.slice (some ⟨gg, 0, none⟩) (names.length + 1) cap) vS vA vT w2 :=
    ⟨hown', (ho.s.alloc ob).kept hgrow (own_apart ho.s ho.n (by decide)), (ho.a.alloc ob).kept hgrow (own_apart ho.a ho.n (by decide)), (ho.t.alloc ob).kept hgrow (own_apart ho.t ho.n (by decide))⟩
  have hb3 := hb2.set 3 (.slice (some ⟨gg, 0, none⟩) (names.length + 1) cap)
  simp at hb3
  have hbel3 : Below g w2 (w2.setCell ⟨g, 3, none⟩ (.slice (some ⟨gg, 0, none⟩) (names.length + 1) cap)) := set_below _
  have hnm : names.length + 1 = (names ++ [t.text]).length := by simp
  obtain ⟨p1, p2⟩ := pst_cut hb3 (hT2.below hbel3 hB) (ho2.set hb2 3 _) (hk2.under hbel3 hm) hm hB (by simpa using hf) (fun x hx => by
    rcases List.mem_append.1 hx with h | h
    · exact htx x h
    · simp at h; subst h; exact hT.texts t (by simp)) b1 o1 c1 h1 hc
  exact ⟨p1, (Fr.grow (i := 3) hb (by simp) rfl hb2 (hbel.mono (by omega)) ((Below.refl _ w).alloc (Nat.le_refl _) ob) hgrow (v' := .slice (some ⟨gg, 0, none⟩) (names.length + 1) cap) rfl (hat.imp id (fun h => by show w.heap.size ≤ gg; omega))).trans p2⟩

set_option maxRecDepth 20000 in
set_option maxHeartbeats 2000000 in
theorem lVariable5 (g B mb : Nat) (last : Int) (fresh : Bool) (s : Qy.St) (w : World) (h : PSt g B mb last s w) :
    Calls Tryd.prog 43 #[.pointer (some ⟨g, 0, none⟩), .bool fresh] w fun e w' => Par g B mb last w iV (Qy.variable_ last fresh s) e w' ∧ w'.cell? ⟨g, 5, none⟩ = w.cell? ⟨g, 5, none⟩ := by
  obtain ⟨i0, hi0, hz0, hz1, hz2⟩ := info_parts Tryd.infoStr
  obtain ⟨⟨A, c, vN, vS, vA, vT, hb, hT, hcap, ho⟩, hk, hm, hB, hf, htx⟩ := h
  obtain ⟨toks, names, shown, atoms, tests⟩ := s
  simp only at hb hT hcap ho hf htx
  obtain ⟨AN, cN, rfl, hcN, hL⟩ := own_lies ho.n (names.map strC) (by rw [List.flatMap_def]) (fun c hc => by
    obtain ⟨x, _, rfl⟩ := List.mem_map.1 hc; rfl) (by rw [List.length_map]) (by omega)
  have h2 := Lib.hid (fun n => lFail g B c A toks last 500 _ _ _ _ _ _ (w.drewN n) hb (hT.drewN n))
  have h3 := Lib.hid (fun n => lFail g B c A toks last 2 _ _ _ _ _ _ (w.drewN n) hb (hT.drewN n))
  have c0 := hb.cell 0; have c2 := hb.cell 2; have c3 := hb.cell 3
  have f0 := hb.free 0; have f3 := hb.free 3
  have hlt := hb.lt
  simp at c0 c2 c3
  have H5 : Hid (∀ n u, ((w.drewN n).setCell ⟨g, 0, none⟩ u).cell? ⟨g, 5, none⟩ = w.cell? ⟨g, 5, none⟩) := Lib.hid (fun n u => by
    rw [((Blk.drewN hb n).set 0 u).cell 5, hb.cell 5]; rfl)
  have H53 : Hid (∀ w2 : World, Blk w2 g 73 #[.slice A toks.length c, .int .i64 last, .map (some mb), .slice AN names.length cN, .slice none 0 0, vS, vA, vT] → ∀ u v, ((w2.setCell ⟨g, 3, none⟩ u).setCell ⟨g, 0, none⟩ v).cell? ⟨g, 5, none⟩ = w.cell? ⟨g, 5, none⟩) := Lib.hid (fun w2 h2 u v => by
    rw [((h2.set 3 u).set 0 v).cell 5, hb.cell 5]; rfl)
  obtain ⟨R, hR⟩ : ∃ R, R = Qy.variable_ last fresh ⟨toks, names, shown, atoms, tests⟩ := ⟨_, rfl⟩
  rw [← hR]
  cases toks with
  | nil =>
    have HR : Hid (R = .bad last 500) := Lib.hid hR
    clear hR hb hT ho hk htx hm hB hf hL
    go_enter Tryd.func43, Tryd.ntmps43
    go_wp2_with fail
    go_quiet (fail)
    go_wp2_with fail
    refine (h2.out _).mono ?_
    rintro e w1 ⟨he, rfl⟩
    unfold FailAt at he
    subst he
    exact ⟨rfl, by rw [HR.out]; exact ⟨rfl, Fr.drewN _ _ _⟩, rfl⟩
  | cons t r =>
    obtain ⟨b, o, rfl, hbB, q0, q1, q2, q3⟩ := hT.at_ 0 t rfl
    have htt := hT.texts t (by simp)
    have hl := hT.len
    simp only [List.length_cons] at hl c0 hcap
    simp only [Nat.zero_mul, Nat.add_zero] at q0 q1 q2 q3
    have hr0 : ((r.length : Int) + 1 == 0) = false := by simp; omega
    have Hlook := Lib.hid (fun n => KindsAt.look (w := w.drewN n) hk (Lx.bs t.text) (by rw [Lx.bs_size]; unfold maxLen; omega))
    rw [Lx.bs_list] at Hlook
    have Hix := Lib.hid (fun n => lIndexStr AN w.heap.size cN names t.text (w.drewN n) (hL.drewN n))
    have Hc := Lib.hid (fun n => pst_cut (w := w.drewN n) hb (hT.drewN n) ⟨ho.n, ho.s, ho.a, ho.t⟩ hk hm hB hf htx)
    have Hown := Lib.hid ho.n
    have Hn := Lib.hid (fun (hf : names.length + 1 ≤ 8) n (w2 : World) gg cap ob => pst_name (w := w.drewN n) (w2 := w2) (gg := gg) (cap := cap) (ob := ob) hb (hT.drewN n) ⟨ho.n, ho.s, ho.a, ho.t⟩ hk hm hB hf htx)
    have Hf := Lib.hid hf
    clear hb hT ho hk htx hL hf
    cases hk2 : t.kind != 1
    · have hk1 : t.kind = 1 := by simpa using hk2
      obtain ⟨K, hK⟩ : ∃ K, K = Qy.kindOf t.text := ⟨_, rfl⟩
      rw [← hK] at Hlook
      cases hK0 : (K : Int) != 0
      · have hKz : K = 0 := by have : (K : Int) = 0 := by simpa using hK0
                               omega
        have HR : Hid (R = match names.findIdx? (· == t.text) with
            | some i => if fresh then .bad t.pos 500 else .ok i ⟨r, names, shown, atoms, tests⟩
            | none => if names.length = 8 then .bad t.pos 2 else .ok names.length ⟨r, names ++ [t.text], shown, atoms, tests⟩) := Lib.hid (by
          rw [hR]; unfold Qy.variable_; simp only; rw [if_pos ⟨hk1, by rw [← hK, hKz]⟩]; rfl)
        clear hR hK hk1 hKz
        go_enter Tryd.func43, Tryd.ntmps43
        go_wp2_with fail
        have hlook := Hlook.out
        go_quiet (fail)
        clear hlook
        go_wp2_with fail
        refine (Hix.out _).mono ?_
        rintro e w1 ⟨rfl, rfl⟩
        unfold Qy.idx
        cases hi : names.findIdx? (· == t.text) with
        | some i =>
          rw [hi] at HR
          clear hi
          cases hfr : fresh
          · rw [hfr] at HR
            clear hfr
            have HR : Hid (R = .ok i ⟨r, names, shown, atoms, tests⟩) := Lib.hid (by rw [HR.out]; rfl)
            have hne : b ≠ g := by omega
            go_wp2_with fail
            · have hr : r = [] := List.eq_nil_of_length_eq_zero (by omega)
              go_ret
              rw [HR.out]
              have hF := Hc.out nq b o 0 (fun h => absurd hr h) (by rw [hr]; exact Nat.le_refl 0)
              exact ⟨⟨rfl, by simpa using hF.1, Fr.draw (by simpa using hF.2)⟩, H5.out _ _⟩
            · go_ret
              rw [HR.out]
              have hF := Hc.out nq b (o + 4) (c - 1) (fun _ => ⟨rfl, rfl⟩) (by omega)
              exact ⟨⟨rfl, by simpa using hF.1, Fr.draw (by simpa using hF.2)⟩, H5.out _ _⟩
          · rw [hfr] at HR
            clear hfr
            go_wp2_with fail
            refine (h2.out _).mono ?_
            rintro e w1 ⟨he, rfl⟩
            unfold FailAt at he
            subst he
            exact ⟨rfl, by rw [HR.out]; exact ⟨rfl, Fr.drewN _ _ _⟩, rfl⟩
        | none =>
          rw [hi] at HR
          clear hi
          cases h8 : (names.length : Int) == 8
          · have HR : Hid (R = .ok names.length ⟨r, names ++ [t.text], shown, atoms, tests⟩) := Lib.hid (by
              rw [HR.out]; simp only; rw [if_neg (by have : ¬ (names.length : Int) = 8 := by simpa using h8
                                                     omega)])
            have h7 : names.length + 1 ≤ 8 := by
              have := Hf.out
              have : ¬ (names.length : Int) = 8 := by simpa using h8
              omega
            have hne : b ≠ g := by omega
            go_wp2_with (at_builtin; refine wpList_append_lies _ rfl _ _ _ rfl g 9 i0 _ 1 16 Tryd.underlying22 hi0 hz0 hz1 hz2 rfl (by omega) _ names.length _ rfl ((Hown.out).alloc _) ⟨w.heap.size, 0, none⟩ 1 1 [.string (Lx.bs t.text)] rfl rfl (World.news_of_block (cs := #[.string (Lx.bs t.text)]) (t := 9) (fr := (0, 0)) (heap_alloc_new (w.drewN nq) _)) (by simp [Value.oneCell']) (by omega) (by unfold maxLen; omega) (by omega) (by simp; omega) (w.heap.size + 1) (by simp) ?_; intro gg cap w2 hown2 hgrow2 hat2 hlt2; have hN := Hn.out h7 nq w2 gg cap _ hgrow2 hat2 hown2; have d0 := hN.1.cell 0; have d3 := hN.1.cell 3; have df0 := hN.1.free 0; have df3 := hN.1.free 3; simp at d0 d3; have HN := Lib.hid hN.2; have H53' := Lib.hid (H53.out w2 hN.1); clear hN hown2 hgrow2 hat2)
            · have hr : r = [] := List.eq_nil_of_length_eq_zero (by omega)
              go_ret
              rw [HR.out]
              have hF := HN.out b o 0 (fun h => absurd hr h) (by rw [hr]; exact Nat.le_refl 0)
              exact ⟨⟨rfl, by simpa using hF.1, Fr.draw (by simpa using hF.2)⟩, H53'.out _ _⟩
            · go_ret
              rw [HR.out]
              have hF := HN.out b (o + 4) (c - 1) (fun _ => ⟨rfl, rfl⟩) (by omega)
              exact ⟨⟨rfl, by simpa using hF.1, Fr.draw (by simpa using hF.2)⟩, H53'.out _ _⟩
          · have HR : Hid (R = .bad t.pos 2) := Lib.hid (by
              rw [HR.out]; simp only; rw [if_pos (by have : (names.length : Int) = 8 := by simpa using h8
                                                     omega)])
            go_wp2_with fail
            refine (h3.out _).mono ?_
            rintro e w1 ⟨he, rfl⟩
            unfold FailAt at he
            subst he
            exact ⟨rfl, by rw [HR.out]; exact ⟨rfl, Fr.drewN _ _ _⟩, rfl⟩
      · have HR : Hid (R = .bad t.pos 500) := Lib.hid (by
          rw [hR]; unfold Qy.variable_; simp only; rw [if_neg (by rw [← hK]; simp at hK0; simp [hK0])]; rfl)
        clear hR hK hk1
        go_enter Tryd.func43, Tryd.ntmps43
        go_wp2_with fail
        have hlook := Hlook.out
        go_quiet (fail)
        clear hlook
        go_wp2_with fail
        refine (h2.out _).mono ?_
        rintro e w1 ⟨he, rfl⟩
        unfold FailAt at he
        subst he
        exact ⟨rfl, by rw [HR.out]; exact ⟨rfl, Fr.drewN _ _ _⟩, rfl⟩
    · have HR : Hid (R = .bad t.pos 500) := Lib.hid (by rw [hR]; unfold Qy.variable_; simp only; rw [if_neg (by simp at hk2; simp [hk2])]; rfl)
      clear hR
      go_enter Tryd.func43, Tryd.ntmps43
      go_wp2_with fail
      go_quiet (fail)
      go_wp2_with fail
      refine (h2.out _).mono ?_
      rintro e w1 ⟨he, rfl⟩
      unfold FailAt at he
      subst he
      exact ⟨rfl, by rw [HR.out]; exact ⟨rfl, Fr.drewN _ _ _⟩, rfl⟩
theorem lVariable (g B mb : Nat) (last : Int) (fresh : Bool) (s : Qy.St) (w : World) (h : PSt g B mb last s w) :
    Calls Tryd.prog 43 #[.pointer (some ⟨g, 0, none⟩), .bool fresh] w (Par g B mb last w iV (Qy.variable_ last fresh s)) := (lVariable5 g B mb last fresh s w h).mono fun _ _ h => h.1
end Go.Proofs.YtjonaidancomgaaDoor

namespace Go.Proofs.YtjonaidancomgaaDoor
open Go.RowKit Go.Maps Go.WideMaps

theorem PSt.owned_lt {g B mb : Nat} {last : Int} {s : Qy.St} {w : World} (h : PSt g B mb last s w) (k : Nat) (hk : Owned w g k) : k < w.heap.size := by
  obtain ⟨A, c, vN, vS, vA, vT, hb, _, _, ho⟩ := h.st
  obtain ⟨i, v, hi, hc, hv⟩ := hk
  rw [hb.cell i] at hc
  rcases hi with rfl | rfl | rfl | rfl
  · simp at hc; subst hc; exact (World.ownsRow.lt ho.n k hv).2
  · simp at hc; subst hc; exact (World.ownsRow.lt ho.s k hv).2
  · simp at hc; subst hc; exact (World.ownsRow.lt ho.a k hv).2
  · simp at hc; subst hc; exact (World.ownsRow.lt ho.t k hv).2
/-- A block that the parser does not own may turn. -/
theorem PSt.setFar {g B mb : Nat} {last : Int} {s : Qy.St} {w : World} (h : PSt g B mb last s w) {p : Nat} (hp : ¬ Owned w g p) (hg : g < p) (i : Nat) (u : Value) : PSt g B mb last s (w.setCell ⟨p, i, none⟩ u) := by
  obtain ⟨⟨A, c, vN, vS, vA, vT, hb, hT, hcap, ho⟩, hk, hm, hB, hf, htx⟩ := h
  have hbel : Below (g + 1) w (w.setCell ⟨p, i, none⟩ u) := Below.setCell (Below.refl _ _) (show g + 1 ≤ p by omega) u
  refine ⟨⟨A, c, vN, vS, vA, vT, hb.below hbel (by omega), hT.below hbel (by omega), hcap, ?_⟩, hk.under hbel (by omega), hm, hB, hf, htx⟩
  exact ⟨own_setCell_far ho.n (fun e => hp ⟨3, vN, by simp, by rw [hb.cell 3]; rfl, e⟩) u, own_setCell_far ho.s (fun e => hp ⟨5, vS, by simp, by rw [hb.cell 5]; rfl, e⟩) u,
    own_setCell_far ho.a (fun e => hp ⟨6, vA, by simp, by rw [hb.cell 6]; rfl, e⟩) u, own_setCell_far ho.t (fun e => hp ⟨7, vT, by simp, by rw [hb.cell 7]; rfl, e⟩) u⟩
/-- A block made behind the parser's: a local variable. -/
theorem owned_new {g B mb : Nat} {last : Int} {s : Qy.St} {w : World} (h : PSt g B mb last s w) (o : Obj) : ¬ Owned (w.alloc o) g w.heap.size := fun ⟨i, v, hi, hc, hv⟩ => by
  have := h.owned_lt w.heap.size ⟨i, v, hi, by rw [← hc]; exact (cell_alloc_old w o g i h.lt).symm, hv⟩
  omega

theorem Qy.argument_num (last : Int) (t : Lx.Tok) (r : List Lx.Tok) (names : List (List UInt8)) (shown : List Int) (atoms : List Qy.Atom) (tests : List Qy.Test) (h : t.kind = 2) : Qy.argument last ⟨t :: r, names, shown, atoms, tests⟩ = (Qy.number last 1099511627776 ⟨t :: r, names, shown, atoms, tests⟩).bind fun n s => .ok ⟨false, n⟩ s := by
  unfold Qy.argument; simp only; rw [if_pos h]
theorem Qy.argument_var (last : Int) (s : Qy.St) (h : ∀ t r, s.toks = t :: r → t.kind ≠ 2) : Qy.argument last s = (Qy.variable_ last false s).bind fun n s => .ok ⟨true, n⟩ s := by
  obtain ⟨toks, names, shown, atoms, tests⟩ := s
  cases toks with
  | nil => rfl
  | cons t r => unfold Qy.argument; simp only; rw [if_neg (h t r rfl)]

set_option maxRecDepth 20000 in
set_option maxHeartbeats 1000000 in
theorem lArgument (g B mb : Nat) (last : Int) (s : Qy.St) (w : World) (h : PSt g B mb last s w) :
    Calls Tryd.prog 58 #[.pointer (some ⟨g, 0, none⟩)] w (Par g B mb last w aV (Qy.argument last s)) := by
  have hlt := h.lt
  have hP := h.next ((Below.refl _ _).alloc (Nat.le_refl _) (.cells #[.bool false, .int .i64 0] 40))
  have hno := owned_new h (.cells #[.bool false, .int .i64 0] 40)
  have hnum := Lib.hid (lNumber g B mb last 1099511627776 s _ hP)
  have hvar := Lib.hid (lVariable g B mb last false s _ hP)
  have hal := Lib.hid (Fr.alloc hlt (.cells #[.bool false, .int .i64 0] 40))
  have hkeep : Hid (∀ w2, Fr g (w.alloc (.cells #[.bool false, .int .i64 0] 40)) w2 → ∀ s2, PSt g B mb last s2 w2 → Blk w2 w.heap.size 40 #[.bool false, .int .i64 0] ∧
      ∀ i u j v, PSt g B mb last s2 ((w2.setCell ⟨w.heap.size, i, none⟩ u).setCell ⟨w.heap.size, j, none⟩ v) ∧ Fr g w ((w2.setCell ⟨w.heap.size, i, none⟩ u).setCell ⟨w.heap.size, j, none⟩ v)) := Lib.hid (fun w2 hf s2 hs2 => by
    have hno2 : ¬ Owned w2 g w.heap.size := fun ho => hno (hf.own _ (by simp) ho)
    refine ⟨(hf.keep w.heap.size (by simp) (by omega) hno).trans (heap_alloc_new w _), fun i u j v => ⟨?_, ((hal.out.trans hf).setFar (Nat.le_refl _) hlt u).setFar (Nat.le_refl _) hlt v⟩⟩
    refine (hs2.setFar hno2 hlt i u).setFar (fun ho => hno2 ?_) hlt j v
    obtain ⟨k, v', hk, hc, hv⟩ := ho
    exact ⟨k, v', hk, by rw [← hc]; exact ((World.cell?_of_block (a := ⟨g, k, none⟩) (Below.heap_setCell w2 ⟨w.heap.size, i, none⟩ u g (show g ≠ w.heap.size by omega)))).symm, hv⟩)
  obtain ⟨⟨A, c, vN, vS, vA, vT, hb, hT, hcap, ho⟩, hk, hm, hB, hf, htx⟩ := h
  have hb1 := hb.alloc (.cells #[.bool false, .int .i64 0] 40)
  have c0 := hb1.cell 0
  simp at c0
  clear hP hno hb hb1 hk htx hf ho
  obtain ⟨toks, names, shown, atoms, tests⟩ := s
  obtain ⟨R, hR⟩ : ∃ R, R = Qy.argument last ⟨toks, names, shown, atoms, tests⟩ := ⟨_, rfl⟩
  rw [← hR]
  simp only at hT hcap c0
  cases toks with
  | nil =>
    have HR := Lib.hid (hR.trans (Qy.argument_var _ _ (fun _ _ h => by cases h)))
    clear hT hR
    go_enter Tryd.func58, Tryd.ntmps58
    go_wp2_with fail
    refine (hvar.out).mono ?_
    intro e w2 he
    cases hv : Qy.variable_ last false ⟨[], names, shown, atoms, tests⟩ with
    | bad x y =>
      rw [hv] at he
      have hR2 : R = .bad x y := by rw [HR.out, hv]; rfl
      obtain ⟨he, hfr⟩ := he
      unfold FailAt at he
      subst he
      exact ⟨rfl, by rw [hR2]; exact ⟨rfl, hal.out.trans hfr⟩⟩
    | ok n s2 =>
      rw [hv] at he
      have HR2 : Hid (R = .ok ⟨true, n⟩ s2) := Lib.hid (by rw [HR.out, hv]; rfl)
      obtain ⟨he, hs2, hfr⟩ := he
      unfold iV at he
      subst he
      obtain ⟨hbx, hend⟩ := hkeep.out w2 hfr s2 hs2
      have x0 := hbx.cell 0; have x1 := hbx.cell 1; have xf0 := hbx.free 0; have xf1 := hbx.free 1
      simp at x0 x1
      have Hend := Lib.hid hend
      clear hv hbx hs2 hfr hend
      go_wp2_with fail
      try simp only [Exit.inBlock, Exit.then]
      refine bodyPost_ret (v := .agg #[.bool true, .int .i64 n]) (by simp [results, Tryd.results58, go_sem, x0, x1]) rfl ?_
      rw [HR2.out]
      have hE := Hend.out 0 (.bool true) 1 (.int .i64 n)
      exact ⟨rfl, by simpa using hE.1, by simpa using hE.2⟩
  | cons t r =>
    obtain ⟨b, o, rfl, hbB, q0, q1, q2, q3⟩ := hT.at_ 0 t rfl
    have hl := hT.len
    simp only [List.length_cons] at hl c0
    simp only [Nat.zero_mul, Nat.add_zero] at q0
    have q0' := (cell_alloc_old w (.cells #[.bool false, .int .i64 0] 40) b o (by omega)).trans q0
    have hr0 : (0 < (r.length : Int) + 1) := by omega
    clear q0 q1 q2 q3
    cases hk2 : t.kind == 2
    · have HR := Lib.hid (hR.trans (Qy.argument_var last ⟨t :: r, names, shown, atoms, tests⟩ (fun t' r' h => by injection h with h1 _; rw [← h1]; simpa using hk2)))
      clear hT hR
      go_enter Tryd.func58, Tryd.ntmps58
      go_wp2_with fail
      refine (hvar.out).mono ?_
      intro e w2 he
      cases hv : Qy.variable_ last false ⟨t :: r, names, shown, atoms, tests⟩ with
      | bad x y =>
        rw [hv] at he
        have hR2 : R = .bad x y := by rw [HR.out, hv]; rfl
        obtain ⟨he, hfr⟩ := he
        unfold FailAt at he
        subst he
        exact ⟨rfl, by rw [hR2]; exact ⟨rfl, hal.out.trans hfr⟩⟩
      | ok n s2 =>
        rw [hv] at he
        have HR2 : Hid (R = .ok ⟨true, n⟩ s2) := Lib.hid (by rw [HR.out, hv]; rfl)
        obtain ⟨he, hs2, hfr⟩ := he
        unfold iV at he
        subst he
        obtain ⟨hbx, hend⟩ := hkeep.out w2 hfr s2 hs2
        have x0 := hbx.cell 0; have x1 := hbx.cell 1; have xf0 := hbx.free 0; have xf1 := hbx.free 1
        simp at x0 x1
        have Hend := Lib.hid hend
        clear hv hbx hs2 hfr hend
        go_wp2_with fail
        try simp only [Exit.inBlock, Exit.then]
        refine bodyPost_ret (v := .agg #[.bool true, .int .i64 n]) (by simp [results, Tryd.results58, go_sem, x0, x1]) rfl ?_
        rw [HR2.out]
        have hE := Hend.out 0 (.bool true) 1 (.int .i64 n)
        exact ⟨rfl, by simpa using hE.1, by simpa using hE.2⟩
    · have HR := Lib.hid (hR.trans (Qy.argument_num last t r names shown atoms tests (by simpa using hk2)))
      clear hT hR
      go_enter Tryd.func58, Tryd.ntmps58
      go_wp2_with fail
      refine (hnum.out).mono ?_
      intro e w2 he
      cases hv : Qy.number last 1099511627776 ⟨t :: r, names, shown, atoms, tests⟩ with
      | bad x y =>
        rw [hv] at he
        have hR2 : R = .bad x y := by rw [HR.out, hv]; rfl
        obtain ⟨he, hfr⟩ := he
        unfold FailAt at he
        subst he
        exact ⟨rfl, by rw [hR2]; exact ⟨rfl, hal.out.trans hfr⟩⟩
      | ok n s2 =>
        rw [hv] at he
        have HR2 : Hid (R = .ok ⟨false, n⟩ s2) := Lib.hid (by rw [HR.out, hv]; rfl)
        obtain ⟨he, hs2, hfr⟩ := he
        unfold iV at he
        subst he
        obtain ⟨hbx, hend⟩ := hkeep.out w2 hfr s2 hs2
        have x0 := hbx.cell 0; have x1 := hbx.cell 1; have xf0 := hbx.free 0; have xf1 := hbx.free 1
        simp at x0 x1
        have Hend := Lib.hid hend
        clear hv hbx hs2 hfr hend
        go_wp2_with fail
        try simp only [Exit.inBlock, Exit.then]
        refine bodyPost_ret (v := .agg #[.bool false, .int .i64 n]) (by simp [results, Tryd.results58, go_sem, x0, x1]) rfl ?_
        rw [HR2.out]
        have hE := Hend.out 0 (.bool false) 1 (.int .i64 n)
        exact ⟨rfl, by simpa using hE.1, by simpa using hE.2⟩
end Go.Proofs.YtjonaidancomgaaDoor

namespace Go.Proofs.YtjonaidancomgaaDoor
open Go.RowKit Go.Maps Go.WideMaps

/-- A local variable's block p beside the parser. -/
structure Loc (g B mb : Nat) (last : Int) (s : Qy.St) (p : Nat) (t : TypeId) (cs : Array Value) (w0 w : World) : Prop where
  st : PSt g B mb last s w
  fr : Fr g w0 w
  no : ¬ Owned w g p
  blk : Blk w p t cs
  old : w0.heap.size ≤ p
  lt : g < w0.heap.size
section
variable {g B mb : Nat} {last : Int} {s s' : Qy.St} {p : Nat} {t : TypeId} {cs : Array Value} {w0 w w' : World}
theorem Loc.new (h : PSt g B mb last s w) (t : TypeId) (cs : Array Value) : Loc g B mb last s w.heap.size t cs w (w.alloc (.cells cs t)) :=
  ⟨h.next ((Below.refl _ _).alloc (Nat.le_refl _) _), Fr.alloc h.lt _, owned_new h _, Blk.new _ _ _, Nat.le_refl _, h.lt⟩
theorem Loc.step (h : Loc g B mb last s p t cs w0 w) (hf : Fr g w w') (hs : PSt g B mb last s' w') : Loc g B mb last s' p t cs w0 w' :=
  ⟨hs, h.fr.trans hf, fun ho => h.no (hf.own _ h.blk.lt ho), (hf.keep p h.blk.lt (by have := h.old; have := h.lt; omega) h.no).trans h.blk, h.old, h.lt⟩
theorem Loc.set (h : Loc g B mb last s p t cs w0 w) (i : Nat) (u : Value) : Loc g B mb last s p t (cs.setIfInBounds i u) w0 (w.setCell ⟨p, i, none⟩ u) := by
  have hlt : g < p := by have := h.old; have := h.lt; omega
  exact ⟨h.st.setFar h.no hlt i u, h.fr.setFar h.old h.lt u, fun ⟨k, v', hk, hc, hv⟩ => h.no ⟨k, v', hk, by rw [← hc]; exact ((World.cell?_of_block (a := ⟨g, k, none⟩) (Below.heap_setCell w ⟨p, i, none⟩ u g (show g ≠ p by omega)))).symm, hv⟩, h.blk.set i u, h.old, h.lt⟩
end

theorem Qy.go_ok {α β : Type} {r : Qy.R α} {f : α → Qy.St → Qy.R β} {R : Qy.R β} {a : α} {s : Qy.St} (h : R = r.bind f) (hv : r = .ok a s) : R = f a s := by rw [h, hv]; rfl
theorem Qy.go_bad {α β : Type} {r : Qy.R α} {f : α → Qy.St → Qy.R β} {R : Qy.R β} {p x : Int} (h : R = r.bind f) (hv : r = .bad p x) : R = .bad p x := by rw [h, hv]; rfl

theorem lSignC (g B mb : Nat) (last : Int) (c : UInt8) (s : Qy.St) (w : World) (h : PSt g B mb last s w) :
    Calls Tryd.prog 49 #[.pointer (some ⟨g, 0, none⟩), .string ⟨#[c]⟩] w (Par g B mb last w uV (Qy.signT last c s)) := lSign g B mb last ⟨#[c]⟩ s w h
theorem lWordAt (g B mb : Nat) (last : Int) (s : Qy.St) (w : World) (h : PSt g B mb last s w) :
    Calls Tryd.prog 42 #[.pointer (some ⟨g, 0, none⟩), .string ⟨#[97, 116]⟩] w (Par g B mb last w uV (Qy.word last Qy.wAt s)) := lWord g B mb last ⟨#[97, 116]⟩ s w h
theorem lWordKnown (g B mb : Nat) (last : Int) (s : Qy.St) (w : World) (h : PSt g B mb last s w) :
    Calls Tryd.prog 42 #[.pointer (some ⟨g, 0, none⟩), .string ⟨#[107, 110, 111, 119, 110]⟩] w (Par g B mb last w uV (Qy.word last Qy.wKnown s)) := lWord g B mb last ⟨#[107, 110, 111, 119, 110]⟩ s w h
theorem lWordShow (g B mb : Nat) (last : Int) (s : Qy.St) (w : World) (h : PSt g B mb last s w) :
    Calls Tryd.prog 42 #[.pointer (some ⟨g, 0, none⟩), .string ⟨#[115, 104, 111, 119]⟩] w (Par g B mb last w uV (Qy.word last Qy.wShow s)) := lWord g B mb last ⟨#[115, 104, 111, 119]⟩ s w h
theorem lWordWhere (g B mb : Nat) (last : Int) (s : Qy.St) (w : World) (h : PSt g B mb last s w) :
    Calls Tryd.prog 42 #[.pointer (some ⟨g, 0, none⟩), .string ⟨#[119, 104, 101, 114, 101]⟩] w (Par g B mb last w uV (Qy.word last Qy.wWhere s)) := lWord g B mb last ⟨#[119, 104, 101, 114, 101]⟩ s w h

/-- What the growing of one of the struct's rows leaves. -/
theorem row_core {g B mb i gg : Nat} {A : Option Addr} {l : List Lx.Tok} {v v' : Value} {cs : Array Value} {w w1 w2 : World} {sz n : Nat} {e : TypeId} {xs : List Value} (hb : Blk w g 73 cs) (hT : Toks w B A l) (hk : KindsAt w mb) (hm : mb < g) (hB : B ≤ g)
    (hown : w.ownsRow g e sz v n xs) (he : e ≠ 73) (h1 : Below w.heap.size w w1) (hgrow : w1.grownBy w2 v.ownBlock) (hi : i = 3 ∨ i = 5 ∨ i = 6 ∨ i = 7) (hv : cs[i]? = some v) (hv' : v'.ownBlock = some gg) (hgg : v.ownBlock = some gg ∨ w.heap.size ≤ gg) :
    Blk w2 g 73 cs ∧ Blk (w2.setCell ⟨g, i, none⟩ v') g 73 (cs.setIfInBounds i v') ∧ Toks (w2.setCell ⟨g, i, none⟩ v') B A l ∧ KindsAt (w2.setCell ⟨g, i, none⟩ v') mb ∧ Fr g w (w2.setCell ⟨g, i, none⟩ v') := by
  obtain ⟨hb2, hT2, hk2, hbel⟩ := grow_rest hb hT hk hm hB hown he h1 hgrow rfl
  exact ⟨hb2, hb2.set i v', hT2.below (set_below v') hB, hk2.under (set_below v') hm, Fr.grow hb hi hv hb2 (hbel.mono (by omega)) h1 hgrow hv' hgg⟩
theorem own_grew {w w1 w2 : World} {g : Nat} {b s1 s2 n1 n2 b2 : Nat} {e1 e2 : TypeId} {v1 v2 u : Value} {x1 x2 : List Value} {cs : Array Value} {i : Nat} {t : TypeId} (h : w.ownsRow b e1 s1 v1 n1 x1) (h2 : w.ownsRow b2 e2 s2 v2 n2 x2) (hne : e1 ≠ e2) (hb1 : Below w.heap.size w w1) (hgrow : w1.grownBy w2 v2.ownBlock)
    (hb : Blk w2 g t cs) (het : e1 ≠ t) : (w2.setCell ⟨g, i, none⟩ u).ownsRow b e1 s1 v1 n1 x1 := by
  have h3 := (own_below h hb1).kept hgrow (own_apart h h2 hne)
  exact own_setCell_far h3 (own_ne h3 hb het) u

theorem pst_atom {g B mb gg cap : Nat} {last : Int} {s : Qy.St} {x : Qy.Atom} {w w1 w2 : World} {A : Option Addr} {c : Nat} {vN vS vA vT : Value}
    (hb : Blk w g 73 #[.slice A s.toks.length c, .int .i64 last, .map (some mb), vN, .slice none 0 0, vS, vA, vT]) (hT : Toks w B A s.toks) (hcap : s.toks.length ≤ c) (ho : POwn g s.names s.shown s.atoms s.tests vN vS vA vT w)
    (hk : KindsAt w mb) (hm : mb < g) (hB : B ≤ g) (hf : s.names.length ≤ 8) (htx : ∀ t ∈ s.names, t.length ≤ 140737488351232)
    (h1 : Below w.heap.size w w1) (hgrow : w1.grownBy w2 vA.ownBlock) (hat : vA.ownBlock = some gg ∨ w.heap.size ≤ gg) (hown : w2.ownsRow g 43 9 (.slice (some ⟨gg, 0, none⟩) (s.atoms.length + 1) cap) (s.atoms.length + 1) (s.atoms.flatMap atomC ++ atomC x)) :
    Blk w2 g 73 #[.slice A s.toks.length c, .int .i64 last, .map (some mb), vN, .slice none 0 0, vS, vA, vT] ∧
    PSt g B mb last { s with atoms := s.atoms ++ [x] } (w2.setCell ⟨g, 6, none⟩ (.slice (some ⟨gg, 0, none⟩) (s.atoms.length + 1) cap)) ∧ Fr g w (w2.setCell ⟨g, 6, none⟩ (.slice (some ⟨gg, 0, none⟩) (s.atoms.length + 1) cap)) := by
  obtain ⟨q1, q2, q3, q4, q5⟩ := row_core (i := 6) (v' := .slice (some ⟨gg, 0, none⟩) (s.atoms.length + 1) cap) hb hT hk hm hB ho.a (by decide) h1 hgrow (by simp) rfl rfl hat
  refine ⟨q1, ⟨⟨A, c, vN, vS, _, vT, by simpa using q2, q3, hcap, ⟨own_grew ho.n ho.a (by decide) h1 hgrow q1 (by decide), own_grew ho.s ho.a (by decide) h1 hgrow q1 (by decide), ?_, own_grew ho.t ho.a (by decide) h1 hgrow q1 (by decide)⟩⟩, q4, hm, hB, hf, htx⟩, q5⟩
  have e1 : ([x] : List Qy.Atom).flatMap atomC = atomC x := by simp
  show World.ownsRow _ _ _ _ _ (s.atoms ++ [x]).length ((s.atoms ++ [x]).flatMap atomC)
  rw [List.flatMap_append, e1, List.length_append]
  exact own_setCell_far hown (own_ne hown q1 (by decide)) _
theorem pst_test {g B mb gg cap : Nat} {last : Int} {s : Qy.St} {x : Qy.Test} {w w1 w2 : World} {A : Option Addr} {c : Nat} {vN vS vA vT : Value}
    (hb : Blk w g 73 #[.slice A s.toks.length c, .int .i64 last, .map (some mb), vN, .slice none 0 0, vS, vA, vT]) (hT : Toks w B A s.toks) (hcap : s.toks.length ≤ c) (ho : POwn g s.names s.shown s.atoms s.tests vN vS vA vT w)
    (hk : KindsAt w mb) (hm : mb < g) (hB : B ≤ g) (hf : s.names.length ≤ 8) (htx : ∀ t ∈ s.names, t.length ≤ 140737488351232)
    (h1 : Below w.heap.size w w1) (hgrow : w1.grownBy w2 vT.ownBlock) (hat : vT.ownBlock = some gg ∨ w.heap.size ≤ gg) (hown : w2.ownsRow g 45 5 (.slice (some ⟨gg, 0, none⟩) (s.tests.length + 1) cap) (s.tests.length + 1) (s.tests.flatMap testC ++ testC x)) :
    Blk w2 g 73 #[.slice A s.toks.length c, .int .i64 last, .map (some mb), vN, .slice none 0 0, vS, vA, vT] ∧
    PSt g B mb last { s with tests := s.tests ++ [x] } (w2.setCell ⟨g, 7, none⟩ (.slice (some ⟨gg, 0, none⟩) (s.tests.length + 1) cap)) ∧ Fr g w (w2.setCell ⟨g, 7, none⟩ (.slice (some ⟨gg, 0, none⟩) (s.tests.length + 1) cap)) := by
  obtain ⟨q1, q2, q3, q4, q5⟩ := row_core (i := 7) (v' := .slice (some ⟨gg, 0, none⟩) (s.tests.length + 1) cap) hb hT hk hm hB ho.t (by decide) h1 hgrow (by simp) rfl rfl hat
  refine ⟨q1, ⟨⟨A, c, vN, vS, vA, _, by simpa using q2, q3, hcap, ⟨own_grew ho.n ho.t (by decide) h1 hgrow q1 (by decide), own_grew ho.s ho.t (by decide) h1 hgrow q1 (by decide), own_grew ho.a ho.t (by decide) h1 hgrow q1 (by decide), ?_⟩⟩, q4, hm, hB, hf, htx⟩, q5⟩
  have e1 : ([x] : List Qy.Test).flatMap testC = testC x := by simp
  show World.ownsRow _ _ _ _ _ (s.tests ++ [x]).length ((s.tests ++ [x]).flatMap testC)
  rw [List.flatMap_append, e1, List.length_append]
  exact own_setCell_far hown (own_ne hown q1 (by decide)) _
theorem pst_show {g B mb gg cap : Nat} {last : Int} {s : Qy.St} {x : Int} {w w1 w2 : World} {A : Option Addr} {c : Nat} {vN vS vA vT : Value}
    (hb : Blk w g 73 #[.slice A s.toks.length c, .int .i64 last, .map (some mb), vN, .slice none 0 0, vS, vA, vT]) (hT : Toks w B A s.toks) (hcap : s.toks.length ≤ c) (ho : POwn g s.names s.shown s.atoms s.tests vN vS vA vT w)
    (hk : KindsAt w mb) (hm : mb < g) (hB : B ≤ g) (hf : s.names.length ≤ 8) (htx : ∀ t ∈ s.names, t.length ≤ 140737488351232)
    (h1 : Below w.heap.size w w1) (hgrow : w1.grownBy w2 vS.ownBlock) (hat : vS.ownBlock = some gg ∨ w.heap.size ≤ gg) (hown : w2.ownsRow g 3 1 (.slice (some ⟨gg, 0, none⟩) (s.shown.length + 1) cap) (s.shown.length + 1) (s.shown.flatMap intC ++ [.int .i64 x])) :
    Blk w2 g 73 #[.slice A s.toks.length c, .int .i64 last, .map (some mb), vN, .slice none 0 0, vS, vA, vT] ∧
    PSt g B mb last { s with shown := s.shown ++ [x] } (w2.setCell ⟨g, 5, none⟩ (.slice (some ⟨gg, 0, none⟩) (s.shown.length + 1) cap)) ∧ Fr g w (w2.setCell ⟨g, 5, none⟩ (.slice (some ⟨gg, 0, none⟩) (s.shown.length + 1) cap)) := by
  obtain ⟨q1, q2, q3, q4, q5⟩ := row_core (i := 5) (v' := .slice (some ⟨gg, 0, none⟩) (s.shown.length + 1) cap) hb hT hk hm hB ho.s (by decide) h1 hgrow (by simp) rfl rfl hat
  refine ⟨q1, ⟨⟨A, c, vN, _, vA, vT, by simpa using q2, q3, hcap, ⟨own_grew ho.n ho.s (by decide) h1 hgrow q1 (by decide), ?_, own_grew ho.a ho.s (by decide) h1 hgrow q1 (by decide), own_grew ho.t ho.s (by decide) h1 hgrow q1 (by decide)⟩⟩, q4, hm, hB, hf, htx⟩, q5⟩
  have e1 : ([x] : List Int).flatMap intC = [.int .i64 x] := by simp [intC]
  show World.ownsRow _ _ _ _ _ (s.shown ++ [x]).length ((s.shown ++ [x]).flatMap intC)
  rw [List.flatMap_append, e1, List.length_append]
  exact own_setCell_far hown (own_ne hown q1 (by decide)) _
end Go.Proofs.YtjonaidancomgaaDoor
