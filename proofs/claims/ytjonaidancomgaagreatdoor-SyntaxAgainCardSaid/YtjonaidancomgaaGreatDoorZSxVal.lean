/- Parts of the proof, joined into one text: SxVal, SxAgn, LxCard, LxOpen, SxCard. -/
import Derived.Test.YtjonaidancomgaaGreatDoorZSxGiv
import Derived.Test.YtjonaidancomgaaGreatDoorZLxL
import Derived.Test.YtjonaidancomgaaGreatDoorZSxSan
import Derived.Test.YtjonaidancomgaaGreatDoorZSxUn
import Derived.Deep.RegionHeldLaw
import Derived.Test.YtjonaidancomgaaGreatDoorCards
import Derived.Test.YtjonaidancomgaaGreatDoorTie
import Derived.Test.YtjonaidancomgaaGreatDoorZShelf
import Derived.WalkKit
import Derived.ProofKit
import Derived.LaidMore
import Derived.OpenShut
import Derived.Below
import Derived.ChangeSame
import Derived.Stop.Joined
import Derived.Stop.LaidErr
import Derived.Lib.LaidTab
import Derived.Deep.DeepHandedRow
import Derived.Deep.DeepWitnessRowRef
import Derived.Deep.Slices
import Derived.Deep.Fields
import Derived.Test.YtjonaidancomgaaGreatDoorZSxParD
import Derived.SliceStrings

namespace Go.Proofs.YtjonaidancomgaaGreatDoor.Sx

theorem v_name {x : List UInt8} (h : Lx.isName x = true) : Lx.valid (nameT x) = true := by simp [Lx.valid, nameT, h]
theorem v_num {n : Int} (h0 : 0 ≤ n) (h1 : n ≤ 12000) : Lx.valid (numT n) = true := by
 unfold Lx.valid numT
 rw [if_neg (by simp), if_pos rfl]
 simp only [List.isEmpty_nil, Bool.true_and, Bool.and_eq_true, decide_eq_true_eq]
 exact ⟨h0, by omega⟩
theorem v_sg {c : UInt8} (h : Lx.sign c = true) : Lx.valid (sgT c) = true := by simp [Lx.valid, sgT, h]
theorem Vs.nil : Vs [] := fun t h => by simp at h
theorem Vs.cons {t : Lx.Tok} {l : List Lx.Tok} (h : Lx.valid t = true) (hl : Vs l) : Vs (t :: l) := fun x hx => by
 rcases List.mem_cons.1 hx with rfl | hx
 ·exact h
 ·exact hl x hx
theorem Vs.app {a b : List Lx.Tok} (ha : Vs a) (hb : Vs b) : Vs (a ++ b) := fun x hx => by
 rcases List.mem_append.1 hx with hx | hx
 ·exact ha x hx
 ·exact hb x hx
theorem Vs.flat {α : Type} {f : α → List Lx.Tok} : ∀ {xs : List α}, (∀ x ∈ xs, Vs (f x)) → Vs (xs.flatMap f)
 | [], _ => by simpa using Vs.nil
 | x :: xs, h => by
  rw [List.flatMap_cons]
  exact (h x (by simp)).app (Vs.flat fun y hy => h y (by simp [hy]))
theorem vs_ref {s : List UInt8} {n : Int} (h : refOk s n = true) : Vs (refT s n) := by
 unfold refOk at h
 rw [Bool.and_eq_true, inB_iff, Bool.or_eq_true] at h
 unfold refT
 split
 ·exact .cons (v_sg (by decide)) (.cons (v_num h.1.1 (by omega)) .nil)
 ·rename_i hs
  rcases h.2 with h2 | h2
  ·exact absurd h2 hs
  ·exact .cons (v_name h2) .nil
theorem vs_ratio {x : Ratio} (h : x.fine = true) : Vs (ratioT x) := by
 unfold Ratio.fine at h
 simp only [Bool.and_eq_true, decide_eq_true_eq] at h
 exact .cons (v_num (by omega) (by omega)) (.cons (v_sg (by decide)) (.cons (v_num (by omega) (by omega)) .nil))
theorem v_ruleWord {op : Int} (h : 1 ≤ op ∧ op ≤ 9) : Lx.valid (nameT (ruleWords.getD (op - 1).toNat [])) = true := by
 have : op = 1 ∨ op = 2 ∨ op = 3 ∨ op = 4 ∨ op = 5 ∨ op = 6 ∨ op = 7 ∨ op = 8 ∨ op = 9 := by omega
 rcases this with rfl | rfl | rfl | rfl | rfl | rfl | rfl | rfl | rfl <;> decide
theorem vs_kids : ∀ {ks : List Rule}, (∀ r ∈ ks, Vs (ruleT r)) → Vs (kidsT ks)
 | [], _ => by rw [kidsT]; exact .nil
 | r :: rs, h => by
  rw [kidsT]
  exact (h r (by simp)).app (.cons (v_sg (by decide)) (vs_kids fun y hy => h y (by simp [hy])))
theorem vs_rule : ∀ (k : Nat) (r : Rule), ruleOk k r = true → Vs (ruleT r)
 | 0, r, h => by cases r; simp [ruleOk] at h
 | k + 1, .mk op co nm n d ks, h => by
  obtain ⟨h1, h2, h3⟩ := ruleOk_op h
  have hk : ∀ r ∈ ks, Vs (ruleT r) := fun r hr => vs_rule k r (rulesOk_mem h2 r hr)
  have hb : Vs (sgT 123 :: (kidsT ks ++ [sgT 125])) := .cons (v_sg (by decide)) ((vs_kids hk).app (.cons (v_sg (by decide)) .nil))
  rw [ruleT]
  refine .cons (v_ruleWord (by omega)) ?_
  rcases h3 with ⟨ho, rfl, rfl, rfl, rfl⟩ | ⟨rfl, rfl, rfl, hn, rfl⟩ | ⟨rfl, rfl, rfl, rfl, rfl, hl⟩ | ⟨rfl, hr, hn, rfl, rfl⟩ | ⟨rfl, hr, hn, rfl, rfl⟩ | ⟨rfl, rfl, rfl, hn, rfl, rfl⟩ | ⟨rfl, rfl, rfl, hf, rfl⟩ | ⟨rfl, hr, rfl, rfl, rfl⟩
  ·rcases ho with rfl | rfl <;> exact hb
  ·exact .cons (v_num hn.1 (by omega)) hb
  ·obtain ⟨r, rfl⟩ := unRules_one hl
   exact hk r (by simp)
  ·exact (vs_ref hr).app (.cons (v_num hn.1 (by omega)) .nil)
  ·exact (vs_ref hr).app (.cons (v_num (by omega) (by omega)) .nil)
  ·exact .cons (v_num hn.1 (by omega)) .nil
  ·exact vs_ratio hf
  ·exact vs_ref hr
theorem vs_opt {c : Prop} [Decidable c] {l : List Lx.Tok} (h : c → Vs l) : Vs (if c then l else []) := by
 split
 ·rename_i hc; exact h hc
 ·exact .nil
theorem vs_course {x : Course} (h : courseOk x = true) : Vs (courseT x) := by
 unfold courseOk at h
 simp only [Bool.and_eq_true, inB_iff] at h
 obtain ⟨⟨⟨⟨⟨h1, h2⟩, h3⟩, h4⟩, h5⟩, h6⟩ := h
 have hw : x.rep ≠ 0 → Lx.valid (nameT (repeatWords.getD x.rep.toNat [])) = true := fun hz => by
  have : x.rep = 1 ∨ x.rep = 2 := by omega
  rcases this with e | e <;> rw [e] <;> decide
 have hs : ∀ c, Lx.sign c = true → Vs [sgT c] := fun c hc => .cons (v_sg hc) .nil
 unfold courseT
 exact ((((Vs.app (.cons (v_name (by decide)) (.cons (v_num h1.1 (by omega)) (.cons (v_name h2) (.cons (v_num (by omega) (by omega)) .nil)))) (vs_opt fun hz => .cons (hw hz) .nil)).app (hs _ (by decide))).app
  (vs_opt fun _ => .cons (v_name (by decide)) ((vs_rule _ _ h5).app (hs _ (by decide))))).app (vs_opt fun _ => .cons (v_name (by decide)) ((vs_rule _ _ h6).app (hs _ (by decide))))).app (hs _ (by decide))
theorem vs_pair {x : Pair} (h : pairOk x = true) : Vs (pairT x) := by
 unfold pairOk at h
 rw [Bool.and_eq_true] at h
 exact .cons (v_name (by decide)) ((vs_ref h.1).app (.cons (v_sg (by decide)) ((vs_ref h.2).app (.cons (v_sg (by decide)) .nil))))
theorem vs_refs : ∀ {l : List (List UInt8 × Int)}, (∀ p ∈ l, refOk p.1 p.2 = true) → Vs (refsT l)
 | [], _ => .nil
 | [p], h => vs_ref (h p (by simp))
 | p :: q :: r, h => (vs_ref (h p (by simp))).app (.cons (v_sg (by decide)) (vs_refs fun y hy => h y (by simp [hy])))
theorem vs_req {x : Req} (h : reqOk x = true) : Vs (reqT x) := by
 unfold reqOk at h
 simp only [Bool.and_eq_true, inB_iff, List.all_eq_true] at h
 obtain ⟨⟨⟨⟨⟨h1, h2⟩, h3⟩, h4⟩, h5⟩, h6⟩ := h
 unfold reqT
 exact (((Vs.app (.cons (v_name (by decide)) (.cons (v_name h1) (.cons (v_num (by omega) (by omega)) (.cons (v_name (by decide)) .nil)))) (vs_refs h6)).app (vs_opt fun _ => .cons (v_name (by decide)) (.cons (v_num h3.1 (by omega)) .nil))).app (vs_opt fun _ => .cons (v_name (by decide)) .nil)).app (.cons (v_sg (by decide)) .nil)
theorem vs_prog {x : Prog} (h : progOk x = true) : Vs (progT x) := by
 unfold progOk at h
 simp only [Bool.and_eq_true, inB_iff, List.all_eq_true, decide_eq_true_eq] at h
 obtain ⟨⟨⟨⟨⟨⟨h1, h2⟩, h3⟩, h4⟩, h5⟩, h6⟩, h7⟩ := h
 have hs : ∀ c, Lx.sign c = true → Vs [sgT c] := fun c hc => .cons (v_sg hc) .nil
 unfold progT
 exact ((((Vs.app (.cons (v_name (by decide)) (.cons (v_num h1.1 (by omega)) (.cons (v_name h2) (hs _ (by decide))))) (vs_opt fun _ => .cons (v_name (by decide)) (.cons (v_num (by omega) (by omega)) (hs _ (by decide))))).app
  (vs_opt fun _ => .cons (v_name (by decide)) (.cons (v_num (by omega) (by omega)) (hs _ (by decide))))).app (vs_opt fun _ => .cons (v_name (by decide)) ((vs_ratio h5).app (hs _ (by decide))))).app (.flat fun q hq => vs_req (h7 q hq))).app (hs _ (by decide))
theorem vs_cls {w : List UInt8} (hw : Lx.isName w = true) {x : Cls} (h : clsOk x = true) : Vs (clsT w x) := by
 unfold clsOk at h
 simp only [Bool.and_eq_true, inB_iff] at h
 unfold clsT
 exact (Vs.app (.cons (v_name hw) (.cons (v_name h.1.1) (.cons (v_num h.1.2.1 (by omega)) (.cons (v_name (by decide)) .nil)))) (vs_ratio h.2)).app (.cons (v_sg (by decide)) .nil)
theorem vs_fee {x : Fee} (h : feeOk x = true) : Vs (feeT x) := by
 unfold feeOk at h
 simp only [Bool.and_eq_true, inB_iff] at h
 exact .cons (v_name (by decide)) (.cons (v_name h.1) (.cons (v_num h.2.1 (by omega)) (.cons (v_sg (by decide)) .nil)))
theorem vs_clause {x : Clause} (h : clauseOk x = true) : Vs (clauseT x) := by
 unfold clauseOk at h
 simp only [Bool.and_eq_true, inB_iff] at h
 obtain ⟨⟨⟨h1, h2⟩, h3⟩, h4⟩ := h
 have k1 : Lx.isName (kindWords.getD (x.kind - 1).toNat []) = true := by
  have : x.kind = 1 ∨ x.kind = 2 ∨ x.kind = 3 ∨ x.kind = 4 ∨ x.kind = 5 := by omega
  rcases this with e | e | e | e | e <;> rw [e] <;> decide
 have k2 : Lx.isName (whenWords.getD x.when_.toNat []) = true := by
  have : x.when_ = 0 ∨ x.when_ = 1 ∨ x.when_ = 2 := by omega
  rcases this with e | e | e <;> rw [e] <;> decide
 have k3 : Lx.isName (actionWords.getD (x.action - 1).toNat []) = true := by
  have : x.action = 1 ∨ x.action = 2 ∨ x.action = 3 := by omega
  rcases this with e | e | e <;> rw [e] <;> decide
 exact .cons (v_name (by decide)) (.cons (v_name k1) (.cons (v_name k2) (.cons (v_name k3) (.cons (v_name (by decide)) (.cons (v_num h4.1 (by omega)) (.cons (v_sg (by decide)) .nil))))))
theorem vs_cat {c : Cat} (h : catOk c = true) : Vs (catT c) := by
 unfold catOk at h
 simp only [Bool.and_eq_true, List.all_eq_true] at h
 obtain ⟨⟨⟨⟨⟨⟨h1, h2⟩, h3⟩, h4⟩, h5⟩, h6⟩, h7⟩ := h
 unfold catT
 exact ((((((Vs.flat fun x hx => vs_course (h1 x hx)).app (.flat fun x hx => vs_pair (h2 x hx))).app (.flat fun x hx => vs_prog (h3 x hx))).app (.flat fun x hx => vs_cls (by decide) (h4 x hx))).app (.flat fun x hx => vs_fee (h5 x hx))).app (.flat fun x hx => vs_cls (by decide) (h6 x hx))).app (.flat fun x hx => vs_clause (h7 x hx))
theorem Vs.text {l : List Lx.Tok} (h : Vs l) : Lx.text l = some (Lx.joinSp (l.map Lx.Tok.out)) := by
 unfold Lx.text
 rw [if_pos (List.all_eq_true.2 h)]
theorem valid_short {t : Lx.Tok} (h : Lx.valid t = true) : t.text.length ≤ 65536 := by
 unfold Lx.valid at h
 split at h
 ·rw [Bool.and_eq_true] at h
  obtain ⟨_, _, _, _, _, hl⟩ := Lx.isName_part h.1
  omega
 ·split at h
  ·simp only [Bool.and_eq_true, List.isEmpty_iff] at h
   rw [h.1.1]; simp
  ·split at h
   ·rw [Bool.and_eq_true] at h
    have h1 := h.1
    split at h1
    ·rename_i hc; rw [hc]; simp
    ·cases h1
   ·cases h
theorem Sim.of_same : ∀ {l m : List Lx.Tok}, Lx.same l m = true → Sim m l
 | [], [], _ => rfl
 | a :: r, b :: s, h => by
  simp only [Lx.same, Lx.same1, Bool.and_eq_true, beq_iff_eq] at h
  have := Sim.of_same h.2
  unfold Sim at this ⊢
  simp only [List.map_cons, List.cons.injEq]
  refine ⟨?_, this⟩
  simp [core, h.1.1.1, h.1.1.2, h.1.2]
 | [], _ :: _, h => by simp [Lx.same] at h
 | _ :: _, [], h => by simp [Lx.same] at h
/-- Parsing what is printed of a printable catalogue returns it with references' numbers 0. -/
theorem parse_back {c : Cat} (h : catOk c = true) {s : List UInt8} (hs : Lx.text (catT c) = some s) (hl : s.length ≤ 65536) : parse s = .ok c.un := by
 obtain ⟨m, h1, h2⟩ := Lx.lex_text hs
 unfold parse parseBy
 rw [if_neg (by omega), h1]
 simp only
 rw [rd_cat (last := s.length) h (.of_same h2)]
 rfl
theorem digits_len : ∀ (k u : Nat), 1 ≤ k → u < 10 ^ k → (Lib.decDigits u).length ≤ k
 | 0, _, h, _ => by omega
 | k + 1, u, _, h => by
  by_cases hu : u < 10
  ·rw [Lib.decDigits, dif_pos hu]; simp
  ·rw [Lib.decDigits, dif_neg hu]
   have hk : 1 ≤ k := by
    rcases Nat.eq_zero_or_pos k with h0 | h0
    ·subst h0; simp at h; omega
    ·exact h0
   have h1 : u / 10 < 10 ^ k := Nat.div_lt_of_lt_mul (by rw [Nat.pow_succ] at h; omega)
   have := digits_len k (u / 10) hk h1
   simp only [List.length_append, List.length_cons, List.length_nil]
   omega
theorem out_len {t : Lx.Tok} (h : Lx.valid t = true) : t.out.length ≤ 32 := by
 unfold Lx.Tok.out
 unfold Lx.valid at h
 split at h
 ·rename_i h1
  rw [if_neg (by omega)]
  rw [Bool.and_eq_true] at h
  obtain ⟨_, _, _, _, _, hl⟩ := Lx.isName_part h.1
  exact hl
 ·split at h
  ·rename_i h1
   rw [if_pos h1]
   simp only [Bool.and_eq_true, decide_eq_true_eq] at h
   exact Nat.le_trans (digits_len 13 _ (by decide) (by omega)) (by decide)
  ·rename_i h1
   rw [if_neg h1]
   split at h
   ·rw [Bool.and_eq_true] at h
    have h2 := h.1
    split at h2
    ·rename_i hc; rw [hc]; simp
    ·cases h2
   ·cases h
theorem join_len : ∀ {l : List Lx.Tok}, Vs l → (Lx.joinSp (l.map Lx.Tok.out)).length ≤ 33 * l.length
 | [], _ => by simp [Lx.joinSp]
 | [t], h => by
  have := out_len (h t (by simp))
  simp [Lx.joinSp]; omega
 | t :: u :: r, h => by
  have h1 := out_len (h t (by simp))
  have h2 := join_len (l := u :: r) fun x hx => h x (by simp [hx])
  simp only [List.map_cons, Lx.joinSp, List.length_append, List.length_cons] at h2 ⊢
  omega
/-- A source that is parsed, printed: the text is known, and parsed again. -/
theorem again {src : List UInt8} {c : Cat} (h : parse src = .ok c) (hl : src.length ≤ 3000) : catOk c = true ∧ c.un = c ∧ (catT c).length ≤ 60000 ∧ (∀ t ∈ catT c, t.text.length ≤ 65536) ∧ ∃ s, Lx.text (catT c) = some s ∧ s.length ≤ 100000 ∧ (s.length ≤ 65536 → parse s = .ok c) := by
 obtain ⟨h1, h2⟩ := parse_good h
 have hv := vs_cat h1
 have hz := parse_size h
 refine ⟨h1, h2, by omega, fun t ht => valid_short (hv t ht), _, hv.text, ?_, fun hs => ?_⟩
 ·have := join_len hv
  omega
 ·have := parse_back h1 hv.text hs
  rwa [h2] at this
theorem again_long {src : List UInt8} (h : 65536 < src.length) : parse src = .bad 0 2 := by
 unfold parse parseBy
 rw [if_pos h]
theorem flat_ge {α : Type} {f : α → List Lx.Tok} : ∀ {xs : List α}, (∀ x ∈ xs, 1 ≤ (f x).length) → xs.length ≤ (xs.flatMap f).length
 | [], _ => by simp
 | x :: xs, h => by
  have h1 := h x (by simp)
  have h2 := flat_ge (f := f) (xs := xs) fun y hy => h y (by simp [hy])
  simp only [List.flatMap_cons, List.length_append, List.length_cons]
  omega
theorem flat_mem {α : Type} {f : α → List Lx.Tok} : ∀ {xs : List α} {x : α}, x ∈ xs → (f x).length ≤ (xs.flatMap f).length
 | y :: xs, x, h => by
  simp only [List.flatMap_cons, List.length_append]
  rcases List.mem_cons.1 h with rfl | h
  ·omega
  ·have := flat_mem (f := f) h; omega
theorem refsT_ge : ∀ (l : List (List UInt8 × Int)), l.length ≤ (refsT l).length
 | [] => by simp
 | [p] => by
  simp only [refsT, refT]
  split <;> simp
 | p :: q :: r => by
  have h1 := refsT_ge (q :: r)
  simp only [refsT, List.length_append, List.length_cons] at h1 ⊢
  omega
/-- A catalogue with few tokens has few parts. -/
theorem cat_few {c : Cat} (hk : catOk c = true) {m : Nat} (h : (catT c).length ≤ m) : c.courses.length ≤ m ∧ c.same.length ≤ m ∧ c.progs.length ≤ m ∧ ∀ p ∈ c.progs, ∀ q ∈ p.reqs, q.froms.length ≤ m := by
 have h1 := flat_ge (f := courseT) (xs := c.courses) fun x _ => by unfold courseT; simp
 have h2 := flat_ge (f := pairT) (xs := c.same) fun x _ => by unfold pairT; simp
 have h3 := flat_ge (f := progT) (xs := c.progs) fun x _ => by unfold progT; simp
 unfold catT at h
 simp only [List.length_append] at h
 refine ⟨by omega, by omega, by omega, fun p hp q hq => ?_⟩
 have k1 := flat_mem (f := progT) hp
 have k2 := flat_mem (f := reqT) hq
 have k3 : (p.reqs.flatMap reqT).length ≤ (progT p).length := by unfold progT; simp only [List.length_append]; omega
 have k4 : (refsT (q.names.zip q.froms)).length ≤ (reqT q).length := by unfold reqT; simp only [List.length_append]; omega
 have k5 := refsT_ge (q.names.zip q.froms)
 have k6 : q.names.length = q.froms.length := by
  unfold catOk at hk
  simp only [Bool.and_eq_true, List.all_eq_true] at hk
  have hp' := hk.1.1.1.1.2 p hp
  unfold progOk at hp'
  simp only [Bool.and_eq_true, List.all_eq_true] at hp'
  have hq' := hp'.2 q hq
  unfold reqOk at hq'
  simp only [Bool.and_eq_true, beq_iff_eq] at hq'
  exact hq'.1.2
 rw [List.length_zip] at k5
 omega
theorem again_few {src : List UInt8} {c : Cat} (h : parse src = .ok c) (hl : src.length ≤ 3000) : c.courses.length ≤ 60000 ∧ c.same.length ≤ 60000 ∧ c.progs.length ≤ 60000 ∧ ∀ p ∈ c.progs, ∀ q ∈ p.reqs, q.froms.length ≤ 60000 :=
 cat_few (parse_good h).1 (by have := parse_size h; omega)
end Go.Proofs.YtjonaidancomgaaGreatDoor.Sx

namespace Go.Proofs.YtjonaidancomgaaGreatDoor
open Go.RowKit

theorem cat_seven {w : World} {S : Nat → Prop} {x : Sx.Cat} {cs : List Value} (h : CatAt w S x cs) : ∃ a0 m0 ae0 a1 m1 ae1 a2 m2 ae2 a3 m3 ae3 a4 m4 ae4 a5 m5 ae5 a6 m6 ae6, cs = [.slice a0 m0 ae0, .slice a1 m1 ae1, .slice a2 m2 ae2, .slice a3 m3 ae3, .slice a4 m4 ae4, .slice a5 m5 ae5, .slice a6 m6 ae6] := by
 obtain ⟨A0, c0, A1, c1, A2, c2, A3, c3, A4, c4, A5, c5, A6, c6, rfl, _⟩ := h
 exact ⟨_, _, _, _, _, _, _, _, _, _, _, _, _, _, _, _, _, _, _, _, _, rfl⟩
theorem Sx.parse_code {src : List UInt8} {p x : Int} (h : Sx.parse src = .bad p x) : x = 2 ∨ x = 90 ∨ x = 100 := by
 unfold Sx.parse Sx.parseBy at h
 split at h
 ·injection h with _ h; exact .inl h.symm
 ·split at h
  ·injection h with _ h; exact .inr (.inl h.symm)
  ·rename_i l hl
   split at h
   ·cases h
   ·rename_i p' e' hp
    injection h with _ h
    subst h
    obtain ⟨a, b, k1, k2, k3, k4⟩ := (Sx.Cuts.bind (G := fun last c l => Sx.ended last c l) Sx.cuts_catalogue fun c => Sx.cuts_ended c).bad _ _ _ _ hp
    rcases k3 with h | ⟨h, _⟩
    ·exact .inr (.inr h)
    ·exact .inl h
set_option maxRecDepth 20000 in
set_option maxHeartbeats 4000000 in
theorem sAgainBad (N : Nat) (s : ByteArray) (p x : Int) (w : World) (he : EnvS N w) (hlen : s.size ≤ 3000) (hp : Sx.parse s.data.toList = .bad p x) : Calls Tryz.prog 7 #[.string s] w (TruePost w) := by
 have hx : (x != 0) = true := by rcases Sx.parse_code hp with rfl | rfl | rfl <;> rfl
 have HE := Lib.hid he; have HP := Lib.hid hp
 clear he hp
 go_enter Tryz.func7, Tryz.ntmps7
 go_wp2_with fail
 refine (sSane N w HE.out).mono ?_
 rintro e w1 ⟨rfl, b1⟩
 have B1 := Lib.hid b1; clear b1
 go_wp2_with fail
 refine (sParse_bad s N p x HP.out w1 (HE.out.next B1.out) (by omega)).mono ?_
 rintro e w2 ⟨rfl, b2⟩
 have B2 := Lib.hid (B1.out.trans (b2.mono B1.out.size)); clear b2
 go_wp2_with fail
 refine (rSame Sx.Cat.none Sx.Cat.none _ [.slice none 0 0, .slice none 0 0, .slice none 0 0, .slice none 0 0, .slice none 0 0, .slice none 0 0, .slice none 0 0] [.slice none 0 0, .slice none 0 0, .slice none 0 0, .slice none 0 0, .slice none 0 0, .slice none 0 0, .slice none 0 0] (cat_nil _ _) (cat_nil _ _)).mono ?_
 rintro e w6 ⟨rfl, b6⟩
 rw [decide_eq_true (rfl : Sx.Cat.none = Sx.Cat.none)]
 have B6 : Hid (Below w.heap.size w w6) := Lib.hid ((B2.out.alloc B2.out.size _).trans (b6.mono (by have := B2.out.size; simp; omega)))
 clear b6
 go_wp2_with fail
 go_ret
 exact ⟨ret_bool rfl, B6.out⟩
set_option maxRecDepth 20000 in
set_option maxHeartbeats 8000000 in
theorem sAgainOk (N : Nat) (s : ByteArray) (c : Sx.Cat) (w : World) (he : EnvS N w) (hlen : s.size ≤ 3000) (hp : Sx.parse s.data.toList = .ok c) : Calls Tryz.prog 7 #[.string s] w (TruePost w) := by
 obtain ⟨hk, hun, htl, htx, o, ho, hol, hback⟩ := Sx.again hp (by rw [Lx.ba_len]; omega)
 obtain ⟨hs0, hs1, hs2, hs3⟩ := Sx.again_few hp (by rw [Lx.ba_len]; omega)
 have HE := Lib.hid he; have HP := Lib.hid hp; have HK := Lib.hid hk; have HU := Lib.hid hun; have HT := Lib.hid htl; have HX := Lib.hid htx; have HO := Lib.hid ho; have HB := Lib.hid hback
 have K0 := Lib.hid hs0; have K1 := Lib.hid hs1; have K2 := Lib.hid hs2; have K3 := Lib.hid hs3
 have hos : (Lx.bs o).size = o.length := Lx.bs_size o
 clear he hp hk hun htl htx ho hback hs0 hs1 hs2 hs3
 go_enter Tryz.func7, Tryz.ntmps7
 go_wp2_with fail
 refine (sSane N w HE.out).mono ?_
 rintro e w1 ⟨rfl, b1⟩
 have B1 := Lib.hid b1; clear b1
 go_wp2_with fail
 refine (sParse_ok s N c HP.out w1 (HE.out.next B1.out) (by omega)).mono ?_
 rintro e w2 ⟨cs, rfl, hc, b2⟩
 obtain ⟨a0, m0, e0, a1, m1, e1, a2, m2, e2, a3, m3, e3, a4, m4, e4, a5, m5, e5, a6, m6, e6, rfl⟩ := cat_seven hc
 have B2 := Lib.hid (B1.out.trans (b2.mono B1.out.size)); clear b2
 obtain ⟨W3, hW3⟩ : ∃ W3, W3 = w2.alloc (.cells #[.slice a0 m0 e0, .slice a1 m1 e1, .slice a2 m2 e2, .slice a3 m3 e3, .slice a4 m4 e4, .slice a5 m5 e5, .slice a6 m6 e6] 30) := ⟨_, rfl⟩
 have b3 : Below w2.heap.size w2 W3 := by rw [hW3]; exact (Below.refl _ _).alloc (Nat.le_refl _) _
 have p3 : Blk W3 w2.heap.size 30 #[.slice a0 m0 e0, .slice a1 m1 e1, .slice a2 m2 e2, .slice a3 m3 e3, .slice a4 m4 e4, .slice a5 m5 e5, .slice a6 m6 e6] := by rw [hW3]; exact Blk.new _ _ _
 have B3 := Lib.hid (B2.out.trans (b3.mono B2.out.size)); have P3 := Lib.hid p3; have C3 := Lib.hid (CatAt.keep (old_keep b3) hc)
 obtain ⟨pc, hpc⟩ : ∃ pc, pc = w2.heap.size := ⟨_, rfl⟩
 go_upto_region 8 with fail
 rw [← hW3]
 rw [← hpc] at P3 ⊢
 obtain ⟨x0, x1, x2, x3, x4, x5, x6, xz⟩ := cells7 P3.out
 clear b3 p3 hc hW3 hpc
 go_wp2_with fail
 refine (sPrint N c _ o W3 (HE.out.next B3.out) C3.out HK.out HT.out HO.out HX.out).mono ?_
 rintro e w4 ⟨rfl, b4⟩
 have B4 := Lib.hid (B3.out.trans (b4.mono B3.out.size)); have P4 := Lib.hid (P3.out.below b4 xz); have C4 := Lib.hid (CatAt.keep (old_keep b4) C3.out)
 clear b4 x0 x1 x2 x3 x4 x5 x6 xz
 have Hall : Hid (∀ w' : World, Below w4.heap.size w4 w' → w'.cell? ⟨pc, 0, none⟩ = some (.slice a0 m0 e0) ∧ w'.cell? ⟨pc, 1, none⟩ = some (.slice a1 m1 e1) ∧ w'.cell? ⟨pc, 2, none⟩ = some (.slice a2 m2 e2) ∧ w'.cell? ⟨pc, 3, none⟩ = some (.slice a3 m3 e3) ∧ w'.cell? ⟨pc, 4, none⟩ = some (.slice a4 m4 e4) ∧ w'.cell? ⟨pc, 5, none⟩ = some (.slice a5 m5 e5) ∧ w'.cell? ⟨pc, 6, none⟩ = some (.slice a6 m6 e6)) := Lib.hid (fun w' hb => by
  obtain ⟨x0, x1, x2, x3, x4, x5, x6, _⟩ := cells7 (P4.out.below hb P4.out.lt)
  exact ⟨x0, x1, x2, x3, x4, x5, x6⟩)
 have pz := P4.out.lt
 go_wp2_with fail
 go_region_held_law (fun w' : World => w'.cell? ⟨pc, 0, none⟩ = some (.slice a0 m0 e0) ∧ w'.cell? ⟨pc, 1, none⟩ = some (.slice a1 m1 e1) ∧ w'.cell? ⟨pc, 2, none⟩ = some (.slice a2 m2 e2) ∧ w'.cell? ⟨pc, 3, none⟩ = some (.slice a3 m3 e3) ∧ w'.cell? ⟨pc, 4, none⟩ = some (.slice a4 m4 e4) ∧ w'.cell? ⟨pc, 5, none⟩ = some (.slice a5 m5 e5) ∧ w'.cell? ⟨pc, 6, none⟩ = some (.slice a6 m6 e6)) (first | exact Hall.out _ (Below.refl w4.heap.size w4).drew | go_keep) (first
  | (go_at_call 14; refine (rSame c c.un _ _ _ (CatAt.keep (old_keep HB6.out) C4.out) C6.out).mono ?_; rw [decide_eq_true HU.out.symm]; rintro e w7 ⟨rfl, hb7⟩; have hc7 := HB6.out.trans (hb7.mono HB6.out.size); obtain ⟨r0, r1, r2, r3, r4, r5, r6⟩ := Hall.out w7 hc7; have HB7 := Lib.hid hc7; clear hb7 hc7)
  | (go_at_call 25; refine (rUn c HK.out K0.out K1.out K2.out K3.out _ _ (CatAt.keep (old_keep (Below.refl w4.heap.size w4).drew) C4.out)).mono ?_; rintro e w6 ⟨hb6, cs6, rfl, h6⟩; obtain ⟨u0, v0, z0, u1, v1, z1, u2, v2, z2, u3, v3, z3, u4, v4, z4, u5, v5, z5, u6, v6, z6, rfl⟩ := cat_seven h6; have hc6 := Below.trans (Below.refl w4.heap.size w4).drew hb6; obtain ⟨r0, r1, r2, r3, r4, r5, r6⟩ := Hall.out w6 hc6; have HB6 := Lib.hid hc6; have C6 := Lib.hid h6; clear hb6 hc6 h6))
 all_goals (try go_wp2_with fail)
 by_cases hle : o.length ≤ 65536
 ·have hso : ¬ ((Lx.bs o).size : Int) > 65536 := by rw [hos]; omega
  refine (sParse_ok (Lx.bs o) N c (by rw [Lx.bs_list]; exact HB.out hle) w7 (HE.out.next (B4.out.trans (HB7.out.mono B4.out.size))) (by rw [hos]; exact hol)).mono ?_
  rintro e w8 ⟨cs8, rfl, h8, b8⟩
  have hc8 := HB7.out.trans (b8.mono HB7.out.size)
  obtain ⟨x0, x1, x2, x3, x4, x5, x6⟩ := Hall.out w8 hc8
  have HB8 := Lib.hid hc8; have C8 := Lib.hid h8
  obtain ⟨u0, v0, z0, u1, v1, z1, u2, v2, z2, u3, v3, z3, u4, v4, z4, u5, v5, z5, u6, v6, z6, rfl⟩ := cat_seven h8
  have hz8 : pc < w8.heap.size := Nat.lt_of_lt_of_le pz hc8.size
  clear b8 hc8 h8
  go_wp2_with fail
  refine (rSame c c _ _ _ (CatAt.keep (old_keep ((Below.refl _ _).alloc (Nat.le_refl _) _)) C8.out) (CatAt.keep (old_keep (HB8.out.alloc HB8.out.size _)) C4.out)).mono ?_
  rw [decide_eq_true rfl]
  rintro e w9 ⟨rfl, hb9⟩
  have B9 := Lib.hid (B4.out.trans (((HB8.out.alloc HB8.out.size _).trans (hb9.mono (by have := HB8.out.size; simp; omega))).mono B4.out.size))
  clear hb9
  go_wp2_with fail
  go_ret
  exact ⟨ret_bool (by simp [hso]), B9.out⟩
 ·have hso : ((Lx.bs o).size : Int) > 65536 := by rw [hos]; omega
  refine (sParse_bad (Lx.bs o) N 0 2 (by rw [Lx.bs_list]; exact Sx.again_long (by omega)) w7 (HE.out.next (B4.out.trans (HB7.out.mono B4.out.size))) (by rw [hos]; exact hol)).mono ?_
  rintro e w8 ⟨rfl, b8⟩
  have B8 := Lib.hid (B4.out.trans ((HB7.out.trans (b8.mono HB7.out.size)).mono B4.out.size))
  clear b8
  go_wp2_with fail
  go_ret
  exact ⟨ret_bool (by simp [hso]), B8.out.alloc B8.out.size _⟩
theorem sAgain (N : Nat) (s : ByteArray) (w : World) (he : EnvS N w) : Calls Tryz.prog 7 #[.string s] w (TruePost w) := by
 by_cases hlen : 3000 < s.size
 ·have HE := Lib.hid he
  clear he
  go_enter Tryz.func7, Tryz.ntmps7
  go_wp2_with fail
  refine (sSane N w HE.out).mono ?_
  rintro e w1 ⟨rfl, b1⟩
  have B1 := Lib.hid b1; clear b1
  go_wp2_with fail
  go_ret
  exact ⟨rfl, B1.out⟩
 cases hp : Sx.parse s.data.toList with
 | ok r => exact sAgainOk N s r w he (by omega) hp
 | bad p x => exact sAgainBad N s p x w he (by omega) hp
end Go.Proofs.YtjonaidancomgaaGreatDoor

namespace Go.Proofs.YtjonaidancomgaaGreatDoor
open Go.RowKit Go.WideShapes Go.ChangeShapes
set_option maxRecDepth 100000

section
variable {H : Type} {enc : TypeId × Value → H} {P : Program}
theorem post_of_below {f : Func} {s : ChangeSpec} {apart fresh handsOn again : Bool} {W W' : World} {args : Array Value} {v : Value} {ds gs : List (DataW H)} {before pa pv : List MemPlace}
  (hW : DataW.Whole enc P f.params.toList s.vars apart W args.toList ds gs before)
  (hres : ∀ (b : Nat) (sp : Nat → Bool) (hd : Bool), DataW.TrodAll enc P W' b sp hd f.resultTypes.toList (v.resultList f.resultTypes.size) (s.fn H (ds ++ gs)).results [])
  (hargs : ∀ sp : Nat → Bool, (∀ p ∈ before, sp p.block = true) → DataW.TrodAll enc P W' 0 sp true f.params.toList args.toList (s.fn H (ds ++ gs)).args pa)
  (hvars : ∀ sp : Nat → Bool, (∀ p ∈ before, sp p.block = true) → DataW.TrodVars enc P W' sp s.vars (s.fn H (ds ++ gs)).vars pv)
  (hps : before = pa ++ pv) (hb : Below W.heap.size W W')
  (hok : ∀ (j : Nat) (t : TypeId) (r : Value), f.resultTypes[j]? = some t → (v.resultList f.resultTypes.size)[j]? = some r → Value.okWide P W' .any 0 t r) :
  s.post enc P f apart fresh handsOn again W args v W' := by
 have hlt : ∀ p ∈ before, p.block < W.heap.size := fun p hp => hW.lt p hp
 have hold : ∀ p ∈ before, (fun b => decide (b < W.heap.size)) p.block = true := fun p hp => by simpa using hlt p hp
 refine ⟨ds, gs, before, [], pa, pv, hW, hres _ _ _, hargs _ hold, hvars _ hold, World.keptBut_mono (fun p hp => ⟨hp, ?_⟩) (hb.frame (· ∈ before)), fun _ => ?_⟩
 ·rw [hps, List.mem_append] at hp
  exact Or.inr hp
 ·obtain ⟨_, _, _, _, _, hz, hn⟩ := hW
  refine ⟨hok, _, _, ([] ++ pa) ++ pv, ⟨[] ++ pa, pv, trodAll_append (hargs _ (fun _ _ => rfl)) (hres _ _ _), hvars _ (fun _ _ => rfl), rfl, ?_, ?_⟩, ?_⟩
  ·intro b off hp
   have hin : MemPlace.cell b off ∈ before := by rw [hps]; simpa using hp
   rw [hb.frozen (hlt _ hin)]
   exact hz b off hin
  ·intro ha
   have := hn ha
   rw [hps] at this
   simpa using this
  ·intro p hp _
   rw [hps]
   simpa using hp
end

theorem own : ownKnob Tryz.prog.godebug = none := by kernel_rfl
theorem starErr : "*" ++ "errors.errorString" = "*errors.errorString" := by decide
theorem rowErr (u : TypeId) (h : Tryz.prog.typeName? 3 u = some "*errors.errorString") : u = 272 :=
 typeName_ptr_named (nm := "errors.errorString") (by rw [starErr]; kernel_rfl) (by kernel_rfl) (by decide) u (by rw [starErr]; exact h)

/-- WHAT THE LIST GIVES THE WALKS. -/
theorem env_of_laid {x y z : DataW Unit} {text : List UInt8} {r : List (String × DataW Unit)} {W : World} (hz : z = Lib.tabData .u64 Lib.pow10Tab)
  (h : laidMet Tryz.prog (("math/bits.deBruijn32tab", x) :: ("math/bits.deBruijn64tab", y) :: ("internal/strconv.uint64pow10", z) :: ("strconv.ErrRange", .iface "*errors.errorString" (.ptr (.agg [.lit (.string text)]))) :: r) W) : Env W := by
 subst hz
 have h1 := h.tail
 have h2 := h1.tail
 have h3 := h2.tail
 refine ⟨?_, ?_, ?_⟩
 ·have ht := Lib.tabIs_of_head (P := Tryz.prog) (g := 8) (t := 266) (e := 229) (n := 20) (by kernel_rfl) (by kernel_rfl) Tryz.underlying266 Tryz.underlying229 (by kernel_rfl) (by kernel_rfl) h2
  unfold Lib.TabIs World.var? at ht
  rw [show Tryz.prog.globalNamed "internal/strconv.uint64pow10" = some 8 by kernel_rfl] at ht
  simp only [Option.bind_some] at ht
  split at ht
  ·rename_i cs t fz hh
   cases ht
   exact ⟨t, fz, hh⟩
  ·cases ht
 ·obtain ⟨a, s, hv, _⟩ := laid_sentinel h3 (g := 6) (ti := 204) (by kernel_rfl) (by kernel_rfl) Tryz.underlying204 rowErr Tryz.underlying272 Tryz.underlying274 rfl rfl Tryz.underlying9 (by kernel_rfl) (by kernel_rfl)
  have := World.var?_cell (show Tryz.prog.globalNamed "strconv.ErrRange" = some 6 by kernel_rfl) hv 0
  exact ⟨_, _, by simpa using this⟩
 ·obtain ⟨ps, ⟨g, t, cs, fuel, p, q, hg, _, hv, _⟩, _⟩ := h1
  obtain rfl := Option.some.inj ((show Tryz.prog.globalNamed "math/bits.deBruijn64tab" = some 10 by kernel_rfl).symm.trans hg)
  unfold World.var? at hv
  rw [hg] at hv
  simp only [Option.bind_some] at hv
  rcases Nat.lt_or_ge 10 W.heap.size with hh | hh
  ·exact hh
  ·rw [Array.getElem?_eq_none hh] at hv
   cases hv

/-- THE WITNESS's WORLD: the heap that the door's run leaves. -/
noncomputable def wit (os : Os) (args : Array Value) : World := (World.doorLaid Tryz.prog 87 os).forCall (fun _ _ => 0) ⟨#[], args, []⟩
theorem wit_vars (os : Os) (args : Array Value) : (wit os args).variablesRefB Tryz.prog = true := by kernel_rfl
theorem wit_rest (os : Os) (args : Array Value) : ((wit os args).heap.toList.drop Tryz.prog.globals.size).take ((begin Tryz.prog (fun _ _ => 0) default).world.heap.size - Tryz.prog.globals.size) =
   (begin Tryz.prog (fun _ _ => 0) default).world.heap.toList.drop Tryz.prog.globals.size := by kernel_rfl
end Go.Proofs.YtjonaidancomgaaGreatDoor

namespace Go.Proofs.YtjonaidancomgaaGreatDoor
open Go.RowKit Go.WideShapes Go.ChangeShapes Go.Deep


section
variable {H : Type} {enc : TypeId × Value → H} {P : Program} {w : World} {base : Nat} {spare : Nat → Bool} {held : Bool}
end

theorem add_none (b o j : Nat) : (⟨b, o, none⟩ : Addr).add j = ⟨b, o + j, none⟩ := by unfold Addr.add; split <;> simp_all
theorem cell_spot {w : World} {a : Addr} {v : Value} (h : w.cell? a = some v) : a.spot = none := by
 unfold World.cell? at h
 split at h
 ·split at h
  ·cases h
  ·rename_i h2; simpa using h2
 ·cases h

section
variable {H : Type} {enc : TypeId × Value → H}
/-- A slice's address, below block B, from which on n bytes lie. -/
structure Byts (w : World) (B : Nat) (A : Option Addr) (n : Nat) : Prop where
 at_ : ∀ k, k < n → ∃ b o z, A = some ⟨b, o, none⟩ ∧ b < B ∧ w.cell? ⟨b, o + k, none⟩ = some (.int .u8 (z : Nat)) ∧ z < 256
 len : n ≤ 140737488351232
end
theorem Byts.below {w w' : World} {B B' : Nat} {A : Option Addr} {n : Nat} (h : Byts w B A n) (hb : Below B' w w') (hB : B ≤ B') : Byts w' B A n :=
 ⟨fun k hk => by
  obtain ⟨b, o, z, e, hlt, hc, hz⟩ := h.at_ k hk
  exact ⟨b, o, z, e, hlt, (hb.cell (p := ⟨b, o + k, none⟩) (show b < B' by omega)).trans hc, hz⟩, h.len⟩
end Go.Proofs.YtjonaidancomgaaGreatDoor

namespace Go.Proofs.YtjonaidancomgaaGreatDoor
open Go.ChangeShapes Go.WideShapes Go.ChangeAt Go.RowKit Go.WideMaps Go.ChangeMaps

set_option maxRecDepth 100000 in
/-- What a variable with words holds. -/
theorem glob_of_laid {nm : String} {gi : Nat} {ws : List (List UInt8)} {d : DataW Unit} {r : List (String × DataW Unit)} {W : World} (hgi : Tryz.prog.globalNamed nm = some gi) (hty : (Tryz.prog.globals[gi]?).map (·.type) = some 105) (hne : 0 < ws.length) (hd0 : d = .slice (ws.map fun x => .lit (.string x)) [])
  (h : laidMet Tryz.prog ((nm, d) :: r) W) : GlobAt W W.heap.size gi ws := by
 obtain ⟨ps, ⟨g, t, cs, fuel, p, q, hg, ht, hv, hd, _⟩, _⟩ := h
 obtain rfl := Option.some.inj (hgi.symm.trans hg)
 obtain rfl := Option.some.inj (hty.symm.trans ht)
 subst hd0
 rcases open_strings Tryz.underlying105 Tryz.underlying9 (by kernel_rfl) hd with ⟨_, hx⟩ | ⟨a, len, cap, ss, hcs, _, hl, hm, hz, hx, hc, _⟩
 ·cases hx
 ·simp only [Prod.mk.injEq, DataW.slice.injEq] at hx
  obtain ⟨⟨hx1, hx2⟩, _⟩ := hx
  have hx2' : ss.drop len = [] := by
   unfold strs at hx2
   exact List.map_eq_nil_iff.1 hx2.symm
  have h1 : ss.take len = ss := by
   have := List.take_append_drop len ss
   rw [hx2', List.append_nil] at this
   exact this
  have hss : ss.map (·.data.toList) = ws := by
   rw [h1] at hx1
   unfold strs at hx1
   have h2 : (ws.map fun x => (DataW.lit (.string x) : DataW Unit)) = (ss.map (·.data.toList)).map fun x => DataW.lit (.string x) := by
    rw [hx1, List.map_map]; rfl
   have hinj : ∀ (l l' : List (List UInt8)), (l.map fun x => (DataW.lit (.string x) : DataW Unit)) = l'.map (fun x => DataW.lit (.string x)) → l = l' := by
    intro l
    induction l with
    | nil => intro l' h; cases l' with | nil => rfl | cons a b => simp at h
    | cons a b ih =>
     intro l' h
     cases l' with
     | nil => simp at h
     | cons a' b' =>
      simp only [List.map_cons, List.cons.injEq, DataW.lit.injEq, Lit.string.injEq] at h
      rw [h.1, ih b' h.2]
   exact (hinj _ _ h2).symm
  have hlss : ss.length = ws.length := by
   have := congrArg List.length hss
   rwa [List.length_map] at this
  rw [if_pos rfl] at hz
  have hlen : len = ws.length := by
   have := congrArg List.length hx2'
   rw [List.length_drop] at this
   simp only [List.length_nil] at this
   omega
  have h0 := hc 0 (by omega)
  have hsp : a.spot = none := cell_spot (show W.cell? a = _ from h0)
  obtain ⟨ab, ao, asp⟩ := a
  simp only at hsp
  subst hsp
  have hcell : W.cell? ⟨gi, 0, none⟩ = some (.slice (some ⟨ab, ao, none⟩) ws.length cap) := by
   have := World.var?_cell hg hv 0
   rw [Array.eq_one_of_toList hcs, hlen] at this
   simpa using this
  have hin : ∀ (k o : Nat) (v : Value), W.cell? ⟨k, o, none⟩ = some v → k < W.heap.size := fun k o v hk => by
   rcases Nat.lt_or_ge k W.heap.size with h | h
   ·exact h
   ·unfold World.cell? at hk
    simp only [Array.getElem?_eq_none h] at hk
    cases hk
  refine ⟨ab, ao, cap, hcell, hin _ _ _ hcell, hin ab ao _ (show W.cell? ⟨ab, ao, none⟩ = _ from h0), fun i x hx => ?_⟩
  have hi : i < ss.length := by
   have := (List.getElem?_eq_some_iff.1 hx).1
   omega
  have h1 := hc i hi
  rw [add_none] at h1
  rw [h1]
  rw [← hss, List.getElem?_map, List.getElem?_eq_getElem hi] at hx
  simp only [Option.map_some, Option.some.injEq] at hx
  have h2 : ss.getD i ByteArray.empty = ss[i] := by simp [List.getD, List.getElem?_eq_getElem hi]
  rw [h2, ← hx]
  unfold strV
  rw [Lx.bs_of]
set_option maxRecDepth 100000 in
theorem wit_metS (os : Os) (args : Array Value) : laidMetH Tryz.prog Rows.syntaxPlacesRow.laid (wit os args).memory :=
 laidMetH_of_parts3 (fuel := 8) (laidMet_of_run' 8 (by kernel_rfl) (by kernel_rfl)) (by kernel_rfl) (by kernel_rfl)
theorem envs_of_laid {W : World} (h : laidMet Tryz.prog Rows.syntaxPlacesRow.laid W) : EnvS W.heap.size W := by
 have he := env_of_laid rfl h
 have h5 := h.tail.tail.tail.tail.tail
 exact ⟨he, Nat.le_refl _, by have := he.size; omega,
  glob_of_laid (nm := "sizar/syntax.ruleWords") (by kernel_rfl) (by kernel_rfl) (by decide) rfl h5,
  glob_of_laid (nm := "sizar/syntax.kindWords") (by kernel_rfl) (by kernel_rfl) (by decide) rfl h5.tail,
  glob_of_laid (nm := "sizar/syntax.whenWords") (by kernel_rfl) (by kernel_rfl) (by decide) rfl h5.tail.tail,
  glob_of_laid (nm := "sizar/syntax.actionWords") (by kernel_rfl) (by kernel_rfl) (by decide) rfl h5.tail.tail.tail,
  glob_of_laid (nm := "sizar/syntax.repeatWords") (by kernel_rfl) (by kernel_rfl) (by decide) rfl h5.tail.tail.tail.tail⟩
end Go.Proofs.YtjonaidancomgaaGreatDoor
