/- The law LexSpaces: tokens written with any white space and comments between them: the walk. -/
import Derived.Test.YtocelmjncjompaaDoorLxGaps
import Derived.Test.YtocelmjncjompaaDoorLxBack
import Derived.Test.YtocelmjncjompaaDoorLxDec
import Derived.Test.YtocelmjncjompaaDoorLxRefLex
import Derived.Test.YtocelmjncjompaaDoorLxOpen
namespace Go.Proofs.YtocelmjncjompaaDoor
open Go.RowKit


theorem Lx.words_next (s : ByteArray) (k : Nat) (h : k < s.size) : (s.data.toList.take (k + 1)).filter (· != 10) = (s.data.toList.take k).filter (· != 10) ++ (if s[k] != 10 then [s[k]] else []) := by
  rw [Lx.take_snoc s k h, List.filter_append]
  congr 1
  cases hc : s[k] != 10 <;> simp_all
theorem toks_one (w : World) (t : Lx.Tok) (h : t.text.length ≤ 140737488351232) : Toks (w.alloc (.cells #[.int .i64 t.kind, .string (Lx.bs t.text), .int .i64 t.n, .int .i64 t.pos] 35)) (w.alloc (.cells #[.int .i64 t.kind, .string (Lx.bs t.text), .int .i64 t.n, .int .i64 t.pos] 35)).heap.size (some ⟨w.heap.size, 0, none⟩) [t] := by
  refine ⟨fun k u hk => ?_, by simp, fun u hu => ?_⟩
  · match k, hk with
    | 0, hk =>
      have e : t = u := by simpa using hk
      subst e
      have hb := Blk.new w 35 #[.int .i64 t.kind, .string (Lx.bs t.text), .int .i64 t.n, .int .i64 t.pos]
      exact ⟨w.heap.size, 0, rfl, by simp, ⟨hb.cell 0, hb.cell 1, hb.cell 2, hb.cell 3⟩⟩
    | k + 1, hk => simp at hk
  · have e : u = t := by simpa using hu
    rw [e]; exact h
theorem Lx.ways_cell {CS : Array Value} {Y : ByteArray} {x : List UInt8} (h : CS = #[.string ⟨#[32]⟩, .string ⟨#[9]⟩, .string ⟨#[10]⟩, .string ⟨#[13, 10]⟩, .string ⟨#[32, 32]⟩, .string Y, .string ⟨#[32, 47, 47, 32, 10]⟩, .string ⟨#[10, 47, 47, 10]⟩]) (hY : Y = Lx.bs (47 :: 47 :: (x ++ [10]))) (i : Nat) (hi : i < 8) :
    ∃ g, g ∈ Lx.ways x ∧ CS[i]? = some (.string (Lx.bs g)) := by
  subst h; subst hY
  have hl : i < (Lx.ways x).length := hi
  refine ⟨(Lx.ways x)[i], List.getElem_mem _, ?_⟩
  match i, hi with
  | 0, _ => rfl
  | 1, _ => rfl
  | 2, _ => rfl
  | 3, _ => rfl
  | 4, _ => rfl
  | 5, _ => rfl
  | 6, _ => rfl
  | 7, _ => rfl
theorem Lx.row_str (P o g : List UInt8) : Value.string (Lx.bs P ++ (Lx.bs o ++ (⟨#[32]⟩ : ByteArray) ++ Lx.bs g)) = .string (Lx.bs (P ++ (o ++ [32] ++ g))) := by
  have e : (⟨#[32]⟩ : ByteArray) = Lx.bs [32] := rfl
  rw [e, Lx.bs_app, Lx.bs_app, Lx.bs_app]
theorem Lx.one_sub (s : ByteArray) (k : Nat) (h : k < s.size) : s.extract k (k + 1) = Lx.bs [s[k]] := by
  apply Lx.bs_of'
  rw [Lx.ext_list, Lx.drop_cons s k h]
  rfl

set_option maxRecDepth 20000 in
set_option maxHeartbeats 4000000 in
theorem lawSpaces (A : Option Addr) (c : Nat) (l : List Lx.Tok) (A' : Option Addr) (n' c' : Nat) (s : ByteArray) (w : World) (hT : Toks w w.heap.size A l) (hB : Byts w w.heap.size A' n') (hs : s.size ≤ 140737488355327) (he : Env w) :
    Calls Tryd.prog 7 #[.slice A l.length c, .slice A' n' c', .string s] w fun e w' => e = .returned (.bool true) ∧ Below w.heap.size w w' := by
  have hsane := lSane w he
  have Hsane := Lib.hid hsane; have HE := Lib.hid he; have HT := Lib.hid hT; have HB := Lib.hid hB
  have hnb := hB.len
  clear hsane he hT hB
  cases hfew : Lx.few l
  · go_enter Tryd.func7, Tryd.ntmps7
    go_wp2_with fail
    refine (Hsane.out).mono ?_
    rintro e w1 ⟨rfl, hb1⟩
    have HB1 := Lib.hid hb1; clear hb1
    have hf := rFew A c l w1 ((HT.out.below HB1.out (Nat.le_refl _)).mono HB1.out.size)
    rw [hfew] at hf
    have HF := Lib.hid hf; clear hf
    go_wp2_with fail
    refine (HF.out).mono ?_
    rintro e w2 ⟨rfl, rfl⟩
    go_wp2_with fail
    go_ret
    exact ⟨rfl, HB1.out⟩
  by_cases hlen : 100 < s.size
  · go_enter Tryd.func7, Tryd.ntmps7
    go_wp2_with fail
    refine (Hsane.out).mono ?_
    rintro e w1 ⟨rfl, hb1⟩
    have HB1 := Lib.hid hb1; clear hb1
    have hf := rFew A c l w1 ((HT.out.below HB1.out (Nat.le_refl _)).mono HB1.out.size)
    rw [hfew] at hf
    have HF := Lib.hid hf; clear hf
    go_wp2_with fail
    refine (HF.out).mono ?_
    rintro e w2 ⟨rfl, rfl⟩
    go_wp2_with fail
    go_ret
    exact ⟨rfl, HB1.out⟩
  have hlen' : s.size ≤ 100 := by omega
  clear hlen
  have hl := Lx.few_len hfew
  go_enter Tryd.func7, Tryd.ntmps7
  go_wp2_with fail
  refine (Hsane.out).mono ?_
  rintro e w1 ⟨rfl, hb1⟩
  have ht1 := (HT.out.below hb1 (Nat.le_refl _)).mono hb1.size
  have hB1 := HB.out.below hb1 (Nat.le_refl _)
  have hsz1 := hb1.size
  have hf := rFew A c l w1 ht1
  rw [hfew] at hf
  have HF := Lib.hid hf; have HT1 := Lib.hid ht1; have HBy1 := Lib.hid hB1; have HB1 := Lib.hid hb1; have HE1 := Lib.hid (HE.out.next hb1); clear hf ht1 hB1 hb1
  go_wp2_with fail
  refine (HF.out).mono ?_
  rintro e w2 ⟨rfl, rfl⟩
  go_wp2_with fail
  go_loopw [7, 8] (fun v7 v8 wr => ∃ k : Nat, k ≤ s.size ∧ v8 = .int .i64 k ∧ v7 = .string (Lx.bs ((s.data.toList.take k).filter (· != 10))) ∧ wr = w1) (fun _ v8 _ => s.size - (intOf v8).toNat)
  case atStart => exact ⟨0, by omega, rfl, rfl, rfl⟩
  case round =>
    obtain ⟨k, hk, rfl, rfl, hww⟩ := hrel
    have hww2 := hww.symm
    subst hww2
    clear hww
    have hfl : ((s.data.toList.take k).filter (· != 10)).length ≤ k := by
      have h1 := List.length_filter_le (· != 10) (s.data.toList.take k)
      have h2 := List.length_take_le k s.data.toList
      omega
    have hwz := Lx.bs_size ((s.data.toList.take k).filter (· != 10))
    obtain ⟨x, hx⟩ : ∃ x, x = (s.data.toList.take k).filter (· != 10) := ⟨_, rfl⟩
    rw [← hx] at hwz hfl ⊢
    obtain ⟨X, hX⟩ : ∃ X, X = Lx.bs x := ⟨_, rfl⟩
    rw [← hX] at hwz ⊢
    have Hx := Lib.hid hx; have HX := Lib.hid hX; clear hx hX
    by_cases hlt : k < s.size
    · have hnext := Lx.words_next s k hlt
      have hone := Lx.one_sub s k hlt
      have hos := Lx.bs_size [s[k]]
      cases h10 : s[k] != 10
      · have h10' := h10
        rw [Lx.ne10] at h10'
        rw [h10] at hnext
        have Hn := Lib.hid hnext; clear hnext hone hos
        go_wp2_with fail
        go_roundw
        case rel => exact ⟨k + 1, by omega, by go_num, by rw [Hn.out, HX.out, Hx.out]; simp, by first | rfl | trivial⟩
        case measure => simp [intOf]; omega
      · have h10' := h10
        rw [Lx.ne10] at h10'
        rw [h10, if_pos rfl] at hnext
        have Hn := Lib.hid hnext; clear hnext
        go_wp2_with fail
        go_roundw
        case rel => exact ⟨k + 1, by omega, by go_num, by rw [Hn.out, HX.out, Hx.out, Lx.bs_app], by first | rfl | trivial⟩
        case measure => simp [intOf]; omega
    · obtain rfl : k = s.size := by omega
      have hne : ∀ d ∈ x, d ≠ 10 := by rw [Hx.out]; exact Lx.filter_ne
      obtain ⟨Y, hY⟩ : ∃ Y, Y = (⟨#[47, 47]⟩ : ByteArray) ++ X ++ (⟨#[10]⟩ : ByteArray) := ⟨_, rfl⟩
      have hYb : Y = Lx.bs (47 :: 47 :: (x ++ [10])) := by
        rw [hY, HX.out]
        show Lx.bs [47, 47] ++ Lx.bs x ++ Lx.bs [10] = _
        rw [Lx.bs_app, Lx.bs_app]
        rfl
      have Hne := Lib.hid hne; have HYb := Lib.hid hYb
      have hYe : (⟨#[47, 47]⟩ : ByteArray) ++ X ++ (⟨#[10]⟩ : ByteArray) = Y := hY.symm
      clear hne hYb hY
      go_wp2_with fail
      obtain ⟨CS, hCS⟩ : ∃ CS : Array Value, CS = #[.string ⟨#[32]⟩, .string ⟨#[9]⟩, .string ⟨#[10]⟩, .string ⟨#[13, 10]⟩, .string ⟨#[32, 32]⟩, .string Y, .string ⟨#[32, 47, 47, 32, 10]⟩, .string ⟨#[10, 47, 47, 10]⟩] := ⟨_, rfl⟩
      rw [← hCS]
      have HCS := Lib.hid hCS; clear hCS
      go_loopw [10, 54] (fun v10 v54 w2 => ∃ (k : Nat) (P : List UInt8), k ≤ l.length ∧ v10 = .string (Lx.bs P) ∧ v54 = .int .i64 k ∧ Lx.Row l k P ∧ Blk w2 w1.heap.size 9 CS ∧ Below w1.heap.size w1 w2) (fun _ v54 _ => l.length - (intOf v54).toNat)
      case atStart => exact ⟨0, [10], by omega, rfl, rfl, Lx.row_nil l, Blk.new _ _ _, (Below.refl _ _).alloc (Nat.le_refl _) _⟩
      case round =>
        obtain ⟨k, P, hkl, rfl, rfl, hrow, hblk, hbel⟩ := hrel
        have hsz2 := hbel.size
        have hlt2 := hblk.lt
        have hPl := hrow.len
        have hPs := Lx.bs_size P
        obtain ⟨S, hS⟩ : ∃ S, S = Lx.bs P := ⟨_, rfl⟩
        rw [← hS] at hPs ⊢
        have hT2 := HT1.out.below hbel (Nat.le_refl _)
        have hB2 := HBy1.out.below hbel hsz1
        have HE2 := Lib.hid (HE1.out.next hbel)
        have HRow := Lib.hid hrow; have Hblk := Lib.hid hblk; have Hbel := Lib.hid hbel; have HS := Lib.hid hS; have HT2 := Lib.hid hT2; have HBy2 := Lib.hid hB2
        clear hrow hblk hbel hS hT2 hB2
        by_cases hkk : k < l.length
        · obtain ⟨t, ht⟩ : ∃ t, l[k]? = some t := ⟨_, List.getElem?_eq_getElem hkk⟩
          obtain ⟨b, o, rfl, hb, p1, p2, p3, p4⟩ := HT2.out.at_ k t ht
          have htx := HT2.out.texts t (List.mem_of_getElem? ht)
          have htxt := Lx.text_one (t := t)
          have hto := toks_one (wr.alloc (.cells #[.int .i64 t.kind, .string (Lx.bs t.text), .int .i64 t.n, .int .i64 t.pos] 35)) t htx
          have hsw : (wr.alloc (.cells #[.int .i64 t.kind, .string (Lx.bs t.text), .int .i64 t.n, .int .i64 t.pos] 35)).heap.size = wr.heap.size + 1 := by simp
          have hbo := ((Below.refl wr.heap.size wr).alloc (Nat.le_refl _) (.cells #[.int .i64 t.kind, .string (Lx.bs t.text), .int .i64 t.n, .int .i64 t.pos] 35)).alloc (by simp) (.cells #[.int .i64 t.kind, .string (Lx.bs t.text), .int .i64 t.n, .int .i64 t.pos] 35)
          rw [hsw] at hto
          have Ht := Lib.hid ht; have Hto := Lib.hid hto; have Hbo := Lib.hid hbo; clear ht hto hbo hsw
          cases hv : Lx.valid t
          · rw [hv, if_neg (by simp)] at htxt
            have hnone := Lx.text_none Ht.out hv
            have Htxt := Lib.hid htxt; have Hnone := Lib.hid hnone; clear htxt hnone
            go_wp2_with fail
            refine (lTextErr (some ⟨wr.heap.size + 1, 0, none⟩) 1 [t] _ (HE2.out.next Hbo.out) Hto.out (show (1 : Nat) ≤ 65536 by omega) Htxt.out).mono ?_
            rintro e w3 ⟨rfl, hb3, he3⟩
            have hb3' := Hbo.out.trans (hb3.mono Hbo.out.size)
            have hT3 := (HT2.out.below hb3' hsz2).mono (Nat.le_trans hsz2 hb3'.size)
            have HB3 := Lib.hid hb3'; have HE3 := Lib.hid he3; have HT3 := Lib.hid hT3; clear hb3 he3 hb3' hT3
            go_wp2_with fail
            refine (lTextErr _ c l w3 HE3.out HT3.out (by omega) Hnone.out).mono ?_
            rintro e w4 ⟨rfl, hb4, _⟩
            have HB4 := Lib.hid hb4; clear hb4
            go_wp2_with fail
            go_ret
            exact ⟨rfl, HB1.out.trans ((Hbel.out.trans ((HB3.out.trans (HB4.out.mono HB3.out.size)).mono hsz2)).mono HB1.out.size)⟩
          · rw [hv, if_pos rfl] at htxt
            have Htxt := Lib.hid htxt; have Hv := Lib.hid hv; clear htxt hv
            have hol := Lx.valid_out Hv.out
            have hos := Lx.bs_size t.out
            by_cases hkn : k < n'
            · obtain ⟨b2, o2, z, rfl, hb2, hc2, hz⟩ := HBy2.out.at_ k hkn
              go_wp2_with fail
              refine (lTextOk (some ⟨wr.heap.size + 1, 0, none⟩) 1 [t] t.out _ (HE2.out.next Hbo.out) Hto.out (show (1 : Nat) ≤ 65536 by omega) Htxt.out).mono ?_
              rintro e w3 ⟨rfl, hb3, he3⟩
              have hb3' := Hbo.out.trans (hb3.mono Hbo.out.size)
              have hc3 := (hb3'.cell (p := ⟨b2, o2 + k, none⟩) (show b2 < wr.heap.size by omega)).trans hc2
              have hbk3 := Hblk.out.below hb3' hlt2
              obtain ⟨g, hg, hgc⟩ := Lx.ways_cell HCS.out HYb.out (z % 8) (Nat.mod_lt _ (by omega))
              have hq : w3.cell? ⟨w1.heap.size, z % 8, none⟩ = some (.string (Lx.bs g)) := (hbk3.cell (z % 8)).trans hgc
              have hgv := Lx.ways_void Hne.out g hg
              have hgl := Lx.ways_len (show x.length ≤ 100 by omega) g hg
              have hgs := Lx.bs_size g
              have hnx := Lx.row_next HRow.out Ht.out Hv.out hgv hgl
              have HB3 := Lib.hid hb3'; have HE3 := Lib.hid he3; have Hbk3 := Lib.hid hbk3; have Hnx := Lib.hid hnx; clear hb3 he3 hb3' hbk3 hc2 hg hgc hgv hnx
              go_wp2_with fail
              go_roundw
              case rel => exact ⟨k + 1, _, by omega, by rw [HS.out]; exact Lx.row_str P t.out g, by go_num, Hnx.out, Hbk3.out, Hbel.out.trans (HB3.out.mono hsz2)⟩
              case measure => simp [intOf]; omega
            · have hnx := Lx.row_next HRow.out Ht.out Hv.out (g := [32]) (Lx.void_space rfl) (by simp)
              have Hnx := Lib.hid hnx; clear hnx
              go_wp2_with fail
              refine (lTextOk (some ⟨wr.heap.size + 1, 0, none⟩) 1 [t] t.out _ (HE2.out.next Hbo.out) Hto.out (show (1 : Nat) ≤ 65536 by omega) Htxt.out).mono ?_
              rintro e w3 ⟨rfl, hb3, he3⟩
              have hb3' := Hbo.out.trans (hb3.mono Hbo.out.size)
              have hbk3 := Hblk.out.below hb3' hlt2
              have HB3 := Lib.hid hb3'; have HE3 := Lib.hid he3; have Hbk3 := Lib.hid hbk3; clear hb3 he3 hb3' hbk3
              go_wp2_with fail
              go_roundw
              case rel => exact ⟨k + 1, _, by omega, by rw [HS.out]; exact Lx.row_str P t.out [32], by go_num, Hnx.out, Hbk3.out, Hbel.out.trans (HB3.out.mono hsz2)⟩
              case measure => simp [intOf]; omega
        · obtain rfl : k = l.length := by omega
          obtain ⟨ms, hms, hsm⟩ := Lx.row_all HRow.out
          have hSl : Lx.lex S.data.toList = .ok ms := by rw [HS.out, Lx.bs_list]; exact hms
          have HSl := Lib.hid hSl; have Hsm := Lib.hid hsm; clear hms hSl hsm
          go_wp2_with fail
          refine (lLexOk S ms wr HE2.out (by omega) HSl.out).mono ?_
          rintro e w3 ⟨A3, c3, rfl, hT3, hb3, _⟩
          have hsame := lSame A A3 c c3 l ms w3 ((HT2.out.below hb3 hsz2).mono (Nat.le_trans hsz2 hb3.size)) hT3
          rw [Hsm.out] at hsame
          have Hsame := Lib.hid hsame; have HB3 := Lib.hid hb3; clear hT3 hb3 hsame
          go_wp2_with fail
          refine (Hsame.out).mono ?_
          rintro e w4 ⟨rfl, hb4⟩
          have HB4 := Lib.hid hb4; clear hb4
          go_wp2_with fail
          go_ret
          exact ⟨ret_bool (by simp), HB1.out.trans ((Hbel.out.trans ((HB3.out.trans (HB4.out.mono HB3.out.size)).mono hsz2)).mono HB1.out.size)⟩
end Go.Proofs.YtocelmjncjompaaDoor
