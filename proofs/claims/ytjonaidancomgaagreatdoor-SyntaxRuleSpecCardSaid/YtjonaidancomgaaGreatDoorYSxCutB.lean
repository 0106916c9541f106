/- Parts of the proof, joined into one text: SxCutB, LxExt, SxEq, SxExt, RpSpec. -/
import Derived.Test.YtjonaidancomgaaGreatDoorYLxStep
import Derived.Test.YtjonaidancomgaaGreatDoorYLxPlain

namespace Go.Proofs.YtjonaidancomgaaGreatDoor.Sx
open Lx (Tok)

theorem find_pre {ws : List (List UInt8)} {l m b : List Tok} (h : l = m ++ b) (hh : find ws l = none) : find ws m = none := by
 cases m with
 | nil => exact find_nil ws
 | cons t m => subst h; exact hh
theorem Cuts.found {α : Type} (ws : List (List UInt8)) {G : Int → Int → List Tok → R α} (hG : ∀ i, Cuts fun last l => G last i l) : Cuts fun last l => match find ws l with | some i => G last (i : Int) l.tail | none => G last 0 l where
 ok := fun last l y r h => by
  cases hh : find ws l with
  | none =>
   rw [hh] at h
   obtain ⟨a, k1, k2⟩ := (hG 0).ok last l y r h
   refine ⟨a, k1, fun last' d b hd => ?_⟩
   show (match find ws (a ++ d) with | some i => _ | none => _) = _
   rw [find_pre (b := b) (by rw [k1, hd, List.append_assoc]) hh]
   exact k2 last' d b hd
  | some i =>
   rw [hh] at h
   cases l with
   | nil => rw [find_nil] at hh; cases hh
   | cons t l =>
    obtain ⟨a, k1, k2⟩ := (hG i).ok last l y r h
    refine ⟨t :: a, by rw [k1]; rfl, fun last' d b hd => ?_⟩
    show (match find ws (t :: (a ++ d)) with | some i => G last' (i : Int) (a ++ d) | none => _) = _
    rw [show find ws (t :: (a ++ d)) = some i from hh]
    exact k2 last' d b hd
 bad := fun last l p e h => by
  cases hh : find ws l with
  | none =>
   rw [hh] at h
   obtain ⟨a, b, k1, k2, k3, k4⟩ := (hG 0).bad last l p e h
   refine ⟨a, b, k1, k2, k3, fun last' => ?_⟩
   show Ends last' (match find ws a with | some i => _ | none => _)
   rw [find_pre k1 hh]
   exact k4 last'
  | some i =>
   rw [hh] at h
   cases l with
   | nil => rw [find_nil] at hh; cases hh
   | cons t l =>
    obtain ⟨a, b, k1, k2, k3, k4⟩ := (hG i).bad last l p e h
    refine ⟨t :: a, b, by rw [k1]; rfl, k2, k3, fun last' => ?_⟩
    show Ends last' (match find ws (t :: a) with | some i => G last' (i : Int) a | none => _)
    rw [show find ws (t :: a) = some i from hh]
    exact k4 last'
 nil := fun last => by rw [find_nil]; exact (hG 0).nil last
theorem Cuts.shrinks {α : Type} {F : Int → List Tok → R α} (h : Cuts F) {last : Int} {l : List Tok} {x : α} {r : List Tok} (e : F last l = .ok x r) : r.length ≤ l.length := by
 obtain ⟨a, k, _⟩ := h.ok last l x r e
 rw [k]; simp
theorem cuts_course : Cuts fun last l => course last l := by
 have h : (fun (last : Int) (l : List Tok) => course last l) = fun last l => (number last 0 4095 l).bind fun no l => (name last l).bind fun nm l => (number last 1 60 l).bind fun cr l =>
   match find repeatWords l with
   | some i => (sign last 123 l.tail).bind fun _ l => (opt last wNeed (rule last 16 0) (Rule.mk 1 0 [] 0 0 []) l).bind fun nd l => (opt last wBar (rule last 16 0) (Rule.mk 2 0 [] 0 0 []) l).bind fun br l => (sign last 125 l).bind fun _ l => .ok (Course.mk nm no cr (i : Int) nd br) l
   | none => (sign last 123 l).bind fun _ l => (opt last wNeed (rule last 16 0) (Rule.mk 1 0 [] 0 0 []) l).bind fun nd l => (opt last wBar (rule last 16 0) (Rule.mk 2 0 [] 0 0 []) l).bind fun br l => (sign last 125 l).bind fun _ l => .ok (Course.mk nm no cr 0 nd br) l := by
  funext last l
  unfold course
  congr 1; funext no l
  congr 1; funext nm l
  congr 1; funext cr l
  cases find repeatWords l <;> rfl
 rw [h]
 refine Cuts.bind (G := fun last no l => (name last l).bind fun nm l => (number last 1 60 l).bind fun cr l =>
   match find repeatWords l with
   | some i => (sign last 123 l.tail).bind fun _ l => (opt last wNeed (rule last 16 0) (Rule.mk 1 0 [] 0 0 []) l).bind fun nd l => (opt last wBar (rule last 16 0) (Rule.mk 2 0 [] 0 0 []) l).bind fun br l => (sign last 125 l).bind fun _ l => .ok (Course.mk nm no cr (i : Int) nd br) l
   | none => (sign last 123 l).bind fun _ l => (opt last wNeed (rule last 16 0) (Rule.mk 1 0 [] 0 0 []) l).bind fun nd l => (opt last wBar (rule last 16 0) (Rule.mk 2 0 [] 0 0 []) l).bind fun br l => (sign last 125 l).bind fun _ l => .ok (Course.mk nm no cr 0 nd br) l) (cuts_number _ _) fun no => ?_
 refine Cuts.bind (G := fun last nm l => (number last 1 60 l).bind fun cr l =>
   match find repeatWords l with
   | some i => (sign last 123 l.tail).bind fun _ l => (opt last wNeed (rule last 16 0) (Rule.mk 1 0 [] 0 0 []) l).bind fun nd l => (opt last wBar (rule last 16 0) (Rule.mk 2 0 [] 0 0 []) l).bind fun br l => (sign last 125 l).bind fun _ l => .ok (Course.mk nm no cr (i : Int) nd br) l
   | none => (sign last 123 l).bind fun _ l => (opt last wNeed (rule last 16 0) (Rule.mk 1 0 [] 0 0 []) l).bind fun nd l => (opt last wBar (rule last 16 0) (Rule.mk 2 0 [] 0 0 []) l).bind fun br l => (sign last 125 l).bind fun _ l => .ok (Course.mk nm no cr 0 nd br) l) cuts_name fun nm => ?_
 refine Cuts.bind (G := fun last cr l =>
   match find repeatWords l with
   | some i => (sign last 123 l.tail).bind fun _ l => (opt last wNeed (rule last 16 0) (Rule.mk 1 0 [] 0 0 []) l).bind fun nd l => (opt last wBar (rule last 16 0) (Rule.mk 2 0 [] 0 0 []) l).bind fun br l => (sign last 125 l).bind fun _ l => .ok (Course.mk nm no cr (i : Int) nd br) l
   | none => (sign last 123 l).bind fun _ l => (opt last wNeed (rule last 16 0) (Rule.mk 1 0 [] 0 0 []) l).bind fun nd l => (opt last wBar (rule last 16 0) (Rule.mk 2 0 [] 0 0 []) l).bind fun br l => (sign last 125 l).bind fun _ l => .ok (Course.mk nm no cr 0 nd br) l) (cuts_number _ _) fun cr => ?_
 exact Cuts.found repeatWords (G := fun last i l => (sign last 123 l).bind fun _ l => (opt last wNeed (rule last 16 0) (Rule.mk 1 0 [] 0 0 []) l).bind fun nd l => (opt last wBar (rule last 16 0) (Rule.mk 2 0 [] 0 0 []) l).bind fun br l => (sign last 125 l).bind fun _ l => .ok (Course.mk nm no cr i nd br) l) fun i =>
  Cuts.bind (G := fun last _ l => (opt last wNeed (rule last 16 0) (Rule.mk 1 0 [] 0 0 []) l).bind fun nd l => (opt last wBar (rule last 16 0) (Rule.mk 2 0 [] 0 0 []) l).bind fun br l => (sign last 125 l).bind fun _ l => .ok (Course.mk nm no cr i nd br) l) (cuts_sign _) fun _ =>
  Cuts.bind (G := fun last nd l => (opt last wBar (rule last 16 0) (Rule.mk 2 0 [] 0 0 []) l).bind fun br l => (sign last 125 l).bind fun _ l => .ok (Course.mk nm no cr i nd br) l) (cuts_opt wNeed _ (cuts_rule 16 0)) fun nd =>
  Cuts.bind (G := fun last br l => (sign last 125 l).bind fun _ l => .ok (Course.mk nm no cr i nd br) l) (cuts_opt wBar _ (cuts_rule 16 0)) fun br =>
  Cuts.bind (G := fun _ _ l => .ok (Course.mk nm no cr i nd br) l) (cuts_sign _) fun _ => Cuts.pure _
theorem cuts_same : Cuts fun last l => same last l :=
 Cuts.bind (G := fun last (a : List UInt8 × Int) l => (sign last 61 l).bind fun _ l => (ref last l).bind fun b l => (sign last 59 l).bind fun _ l => .ok (⟨a.1, b.1, a.2, b.2⟩ : Pair) l) cuts_ref fun a =>
 Cuts.bind (G := fun last _ l => (ref last l).bind fun b l => (sign last 59 l).bind fun _ l => .ok (⟨a.1, b.1, a.2, b.2⟩ : Pair) l) (cuts_sign _) fun _ =>
 Cuts.bind (G := fun last (b : List UInt8 × Int) l => (sign last 59 l).bind fun _ l => .ok (⟨a.1, b.1, a.2, b.2⟩ : Pair) l) cuts_ref fun _b => Cuts.bind (cuts_sign _) fun _ => Cuts.pure _
theorem cuts_refsF : ∀ (f : Nat) (rs : List (List UInt8 × Int)), Cuts fun last l => refs last f rs l
 | 0, rs => Cuts.pure rs
 | f + 1, rs => Cuts.bind (G := fun last r l => if hit 3 [44] l = true then refs last f (rs ++ [r]) l.tail else .ok (rs ++ [r]) l) cuts_ref fun r => Cuts.hit 3 [44] (F := fun last l => refs last f (rs ++ [r]) l) (cuts_refsF f (rs ++ [r])) (Cuts.pure _)
theorem refs_fuel (last : Int) : ∀ (n m : Nat) (rs : List (List UInt8 × Int)) (l : List Tok), l.length + 1 ≤ n → l.length + 1 ≤ m → refs last n rs l = refs last m rs l
 | 0, _, _, l, h, _ => by omega
 | n + 1, 0, _, l, _, h => by omega
 | n + 1, m + 1, rs, l, hn, hm => by
  unfold refs
  cases h1 : ref last l with
  | bad p e => rfl
  | ok k l1 =>
   have e1 := eats_ref last _ _ _ h1
   simp only [R.bind]
   cases hh : Sx.hit 3 [44] l1 with
   | false => rfl
   | true =>
    have e2 := hit_tail hh
    simp only [if_true]
    exact refs_fuel last n m _ _ (by omega) (by omega)
theorem cuts_refs : Cuts fun last l => refs last l.length.succ [] l :=
 Cuts.fuel 1 (F := fun last n l => refs last n [] l) (fun n => cuts_refsF n []) (fun last n m l h1 h2 => refs_fuel last n m [] l h1 h2)
theorem cuts_take : Cuts fun last l => take last l := by
 have h : (fun (last : Int) (l : List Tok) => take last l) = fun last l => (name last l).bind fun nm l => (number last 1 10000 l).bind fun cr l => (word last wFrom l).bind fun _ l => (refs last l.length.succ [] l).bind fun rs l =>
   (if hit 1 wAt l = true then number last 0 12 l.tail else .ok 1 l).bind fun g l => if hit 1 wHome l = true then (sign last 59 l.tail).bind fun _ l => .ok (⟨nm, cr, g, true, rs.map (·.1), rs.map (·.2)⟩ : Req) l else (sign last 59 l).bind fun _ l => .ok (⟨nm, cr, g, false, rs.map (·.1), rs.map (·.2)⟩ : Req) l := by
  funext last l
  unfold take
  congr 1; funext nm l
  congr 1; funext cr l
  congr 1; funext _ l
  congr 1; funext rs l
  congr 1; funext g l
  cases Sx.hit 1 wHome l <;> rfl
 rw [h]
 exact Cuts.bind (G := fun last nm l => (number last 1 10000 l).bind fun cr l => (word last wFrom l).bind fun _ l => (refs last l.length.succ [] l).bind fun rs l =>
   (if hit 1 wAt l = true then number last 0 12 l.tail else .ok 1 l).bind fun g l => if hit 1 wHome l = true then (sign last 59 l.tail).bind fun _ l => .ok (⟨nm, cr, g, true, rs.map (·.1), rs.map (·.2)⟩ : Req) l else (sign last 59 l).bind fun _ l => .ok (⟨nm, cr, g, false, rs.map (·.1), rs.map (·.2)⟩ : Req) l) cuts_name fun nm =>
  Cuts.bind (G := fun last cr l => (word last wFrom l).bind fun _ l => (refs last l.length.succ [] l).bind fun rs l =>
   (if hit 1 wAt l = true then number last 0 12 l.tail else .ok 1 l).bind fun g l => if hit 1 wHome l = true then (sign last 59 l.tail).bind fun _ l => .ok (⟨nm, cr, g, true, rs.map (·.1), rs.map (·.2)⟩ : Req) l else (sign last 59 l).bind fun _ l => .ok (⟨nm, cr, g, false, rs.map (·.1), rs.map (·.2)⟩ : Req) l) (cuts_number _ _) fun cr =>
  Cuts.bind (G := fun last _ l => (refs last l.length.succ [] l).bind fun rs l =>
   (if hit 1 wAt l = true then number last 0 12 l.tail else .ok 1 l).bind fun g l => if hit 1 wHome l = true then (sign last 59 l.tail).bind fun _ l => .ok (⟨nm, cr, g, true, rs.map (·.1), rs.map (·.2)⟩ : Req) l else (sign last 59 l).bind fun _ l => .ok (⟨nm, cr, g, false, rs.map (·.1), rs.map (·.2)⟩ : Req) l) (cuts_word _) fun _ =>
  Cuts.bind (G := fun last rs l => (if hit 1 wAt l = true then number last 0 12 l.tail else .ok 1 l).bind fun g l => if hit 1 wHome l = true then (sign last 59 l.tail).bind fun _ l => .ok (⟨nm, cr, g, true, rs.map (·.1), rs.map (·.2)⟩ : Req) l else (sign last 59 l).bind fun _ l => .ok (⟨nm, cr, g, false, rs.map (·.1), rs.map (·.2)⟩ : Req) l) cuts_refs fun rs =>
  Cuts.bind (G := fun last g l => if hit 1 wHome l = true then (sign last 59 l.tail).bind fun _ l => .ok (⟨nm, cr, g, true, rs.map (·.1), rs.map (·.2)⟩ : Req) l else (sign last 59 l).bind fun _ l => .ok (⟨nm, cr, g, false, rs.map (·.1), rs.map (·.2)⟩ : Req) l) (Cuts.hit 1 wAt (F := fun last l => number last 0 12 l) (cuts_number _ _) (Cuts.pure 1)) fun g =>
  Cuts.hit 1 wHome (F := fun last l => (sign last 59 l).bind fun _ l => .ok (⟨nm, cr, g, true, rs.map (·.1), rs.map (·.2)⟩ : Req) l) (Cuts.bind (cuts_sign _) fun _ => Cuts.pure _) (Cuts.bind (cuts_sign _) fun _ => Cuts.pure _)
theorem cuts_takesF : ∀ (f : Nat) (qs : List Req), Cuts fun last l => takes last f qs l
 | 0, qs => Cuts.pure qs
 | f + 1, qs => by
  by_cases h : qs.length = 64
  ·have e : (fun (last : Int) (l : List Tok) => takes last (f + 1) qs l) = fun last l => if hit 1 wTake l = true then (fail last l 2 : R (List Req)) else .ok qs l := by
    funext last l
    rw [takes, if_pos h]
   rw [e]
   exact cuts_full 1 wTake qs
  ·have e : (fun (last : Int) (l : List Tok) => takes last (f + 1) qs l) = fun last l => if hit 1 wTake l = true then (fun last l => (take last l).bind fun q l => takes last f (qs ++ [q]) l) last l.tail else .ok qs l := by
    funext last l
    rw [takes, if_neg h]
   rw [e]
   exact Cuts.hit 1 wTake (F := fun last l => (take last l).bind fun q l => takes last f (qs ++ [q]) l) (Cuts.bind (G := fun last q l => takes last f (qs ++ [q]) l) cuts_take fun q => cuts_takesF f (qs ++ [q])) (Cuts.pure qs)
theorem takes_fuel (last : Int) : ∀ (n m : Nat) (qs : List Req) (l : List Tok), l.length + 1 ≤ n → l.length + 1 ≤ m → takes last n qs l = takes last m qs l
 | 0, _, _, l, h, _ => by omega
 | n + 1, 0, _, l, _, h => by omega
 | n + 1, m + 1, qs, l, hn, hm => by
  unfold takes
  cases hh : Sx.hit 1 wTake l with
  | false => rfl
  | true =>
   have e2 := hit_tail hh
   simp only [if_true]
   split
   ·rfl
   ·cases h1 : take last l.tail with
    | bad p e => rfl
    | ok k l1 =>
     have e1 := cuts_take.shrinks h1
     simp only [R.bind]
     exact takes_fuel last n m _ _ (by omega) (by omega)
theorem cuts_takes : Cuts fun last l => takes last l.length.succ [] l :=
 Cuts.fuel 1 (F := fun last n l => takes last n [] l) (fun n => cuts_takesF n []) (fun last n m l h1 h2 => takes_fuel last n m [] l h1 h2)
theorem cuts_programme : Cuts fun last l => programme last l :=
 Cuts.bind (G := fun last no l => (name last l).bind fun nm l => (sign last 123 l).bind fun _ l => (opt last wUses (number last 1 4) 1 l).bind fun us l => (opt last wEarn (number last 0 10000) 0 l).bind fun ea l => (opt last wMean (ratio last) ⟨0, 1⟩ l).bind fun me l => (takes last l.length.succ [] l).bind fun qs l => (sign last 125 l).bind fun _ l => .ok (⟨nm, no, us, ea, me, qs⟩ : Prog) l) (cuts_number _ _) fun no =>
 Cuts.bind (G := fun last nm l => (sign last 123 l).bind fun _ l => (opt last wUses (number last 1 4) 1 l).bind fun us l => (opt last wEarn (number last 0 10000) 0 l).bind fun ea l => (opt last wMean (ratio last) ⟨0, 1⟩ l).bind fun me l => (takes last l.length.succ [] l).bind fun qs l => (sign last 125 l).bind fun _ l => .ok (⟨nm, no, us, ea, me, qs⟩ : Prog) l) cuts_name fun nm =>
 Cuts.bind (G := fun last _ l => (opt last wUses (number last 1 4) 1 l).bind fun us l => (opt last wEarn (number last 0 10000) 0 l).bind fun ea l => (opt last wMean (ratio last) ⟨0, 1⟩ l).bind fun me l => (takes last l.length.succ [] l).bind fun qs l => (sign last 125 l).bind fun _ l => .ok (⟨nm, no, us, ea, me, qs⟩ : Prog) l) (cuts_sign _) fun _ =>
 Cuts.bind (G := fun last us l => (opt last wEarn (number last 0 10000) 0 l).bind fun ea l => (opt last wMean (ratio last) ⟨0, 1⟩ l).bind fun me l => (takes last l.length.succ [] l).bind fun qs l => (sign last 125 l).bind fun _ l => .ok (⟨nm, no, us, ea, me, qs⟩ : Prog) l) (cuts_opt wUses _ (cuts_number _ _)) fun us =>
 Cuts.bind (G := fun last ea l => (opt last wMean (ratio last) ⟨0, 1⟩ l).bind fun me l => (takes last l.length.succ [] l).bind fun qs l => (sign last 125 l).bind fun _ l => .ok (⟨nm, no, us, ea, me, qs⟩ : Prog) l) (cuts_opt wEarn _ (cuts_number _ _)) fun ea =>
 Cuts.bind (G := fun last me l => (takes last l.length.succ [] l).bind fun qs l => (sign last 125 l).bind fun _ l => .ok (⟨nm, no, us, ea, me, qs⟩ : Prog) l) (cuts_opt wMean _ cuts_ratio) fun me =>
 Cuts.bind (G := fun last qs l => (sign last 125 l).bind fun _ l => .ok (⟨nm, no, us, ea, me, qs⟩ : Prog) l) cuts_takes fun _qs => Cuts.bind (cuts_sign _) fun _ => Cuts.pure _
theorem cuts_standing : Cuts fun last l => standing last l :=
 Cuts.bind (G := fun last nm l => (number last 0 10000 l).bind fun ea l => (word last wMean l).bind fun _ l => (ratio last l).bind fun me l => (sign last 59 l).bind fun _ l => .ok (⟨nm, ea, me⟩ : Cls) l) cuts_name fun nm =>
 Cuts.bind (G := fun last ea l => (word last wMean l).bind fun _ l => (ratio last l).bind fun me l => (sign last 59 l).bind fun _ l => .ok (⟨nm, ea, me⟩ : Cls) l) (cuts_number _ _) fun ea =>
 Cuts.bind (G := fun last _ l => (ratio last l).bind fun me l => (sign last 59 l).bind fun _ l => .ok (⟨nm, ea, me⟩ : Cls) l) (cuts_word _) fun _ =>
 Cuts.bind (G := fun last me l => (sign last 59 l).bind fun _ l => .ok (⟨nm, ea, me⟩ : Cls) l) cuts_ratio fun _me => Cuts.bind (cuts_sign _) fun _ => Cuts.pure _
theorem cuts_fee : Cuts fun last l => fee last l :=
 Cuts.bind (G := fun last nm l => (number last 0 10000 l).bind fun cr l => (sign last 59 l).bind fun _ l => .ok (⟨nm, cr⟩ : Fee) l) cuts_name fun nm =>
 Cuts.bind (G := fun last cr l => (sign last 59 l).bind fun _ l => .ok (⟨nm, cr⟩ : Fee) l) (cuts_number _ _) fun _cr => Cuts.bind (cuts_sign _) fun _ => Cuts.pure _
theorem cuts_clause : Cuts fun last l => clause last l :=
 Cuts.bind (G := fun last k l => (oneOf last whenWords l).bind fun w l => (oneOf last actionWords l).bind fun a l => (word last wUntil l).bind fun _ l => (number last 0 12 l).bind fun u l => (sign last 59 l).bind fun _ l => .ok (⟨k + 1, w, a + 1, u⟩ : Clause) l) (cuts_oneOf _) fun k =>
 Cuts.bind (G := fun last w l => (oneOf last actionWords l).bind fun a l => (word last wUntil l).bind fun _ l => (number last 0 12 l).bind fun u l => (sign last 59 l).bind fun _ l => .ok (⟨k + 1, w, a + 1, u⟩ : Clause) l) (cuts_oneOf _) fun w =>
 Cuts.bind (G := fun last a l => (word last wUntil l).bind fun _ l => (number last 0 12 l).bind fun u l => (sign last 59 l).bind fun _ l => .ok (⟨k + 1, w, a + 1, u⟩ : Clause) l) (cuts_oneOf _) fun a =>
 Cuts.bind (G := fun last _ l => (number last 0 12 l).bind fun u l => (sign last 59 l).bind fun _ l => .ok (⟨k + 1, w, a + 1, u⟩ : Clause) l) (cuts_word _) fun _ =>
 Cuts.bind (G := fun last u l => (sign last 59 l).bind fun _ l => .ok (⟨k + 1, w, a + 1, u⟩ : Clause) l) (cuts_number _ _) fun _u => Cuts.bind (cuts_sign _) fun _ => Cuts.pure _
def defineR (last : Int) (w : List UInt8) (c : Cat) (l : List Tok) : R Cat :=
 if w = wCourse then (course last l).bind fun x l => .ok { c with courses := c.courses ++ [x] } l
 else if w = wSame then (same last l).bind fun x l => .ok { c with same := c.same ++ [x] } l
 else if w = wProgramme then (programme last l).bind fun x l => .ok { c with progs := c.progs ++ [x] } l
 else if w = wClass then (standing last l).bind fun x l => .ok { c with classes := c.classes ++ [x] } l
 else if w = wHonour then (standing last l).bind fun x l => .ok { c with honours := c.honours ++ [x] } l
 else if w = wFee then (fee last l).bind fun x l => .ok { c with fees := c.fees ++ [x] } l
 else (clause last l).bind fun x l => .ok { c with clauses := c.clauses ++ [x] } l
def isDef (w : List UInt8) : Bool := w = wCourse || w = wSame || w = wProgramme || w = wClass || w = wHonour || w = wFee || w = wWhen
theorem define_eq (last : Int) (w : List UInt8) (c : Cat) (l : List Tok) : define last w c l = if isDef w = true then some (defineR last w c l) else none := by
 by_cases h1 : w = wCourse
 ·have hd : isDef w = true := by unfold isDef; simp [h1]
  unfold define defineR
  simp only [if_pos hd, if_pos h1]
 by_cases h2 : w = wSame
 ·have hd : isDef w = true := by unfold isDef; simp [h2]
  unfold define defineR
  simp only [if_pos hd, if_neg h1, if_pos h2]
 by_cases h3 : w = wProgramme
 ·have hd : isDef w = true := by unfold isDef; simp [h3]
  unfold define defineR
  simp only [if_pos hd, if_neg h1, if_neg h2, if_pos h3]
 by_cases h4 : w = wClass
 ·have hd : isDef w = true := by unfold isDef; simp [h4]
  unfold define defineR
  simp only [if_pos hd, if_neg h1, if_neg h2, if_neg h3, if_pos h4]
 by_cases h5 : w = wHonour
 ·have hd : isDef w = true := by unfold isDef; simp [h5]
  unfold define defineR
  simp only [if_pos hd, if_neg h1, if_neg h2, if_neg h3, if_neg h4, if_pos h5]
 by_cases h6 : w = wFee
 ·have hd : isDef w = true := by unfold isDef; simp [h6]
  unfold define defineR
  simp only [if_pos hd, if_neg h1, if_neg h2, if_neg h3, if_neg h4, if_neg h5, if_pos h6]
 by_cases h7 : w = wWhen
 ·have hd : isDef w = true := by unfold isDef; simp [h7]
  unfold define defineR
  simp only [if_pos hd, if_neg h1, if_neg h2, if_neg h3, if_neg h4, if_neg h5, if_neg h6, if_pos h7]
 have hd : ¬ isDef w = true := by unfold isDef; simp [h1, h2, h3, h4, h5, h6, h7]
 unfold define
 simp only [if_neg hd, if_neg h1, if_neg h2, if_neg h3, if_neg h4, if_neg h5, if_neg h6, if_neg h7]
theorem cuts_define (w : List UInt8) (c : Cat) : Cuts fun last l => defineR last w c l := by
 refine Cuts.ite _ (Cuts.bind cuts_course fun _ => Cuts.pure _) ?_
 refine Cuts.ite _ (Cuts.bind cuts_same fun _ => Cuts.pure _) ?_
 refine Cuts.ite _ (Cuts.bind cuts_programme fun _ => Cuts.pure _) ?_
 refine Cuts.ite _ (Cuts.bind cuts_standing fun _ => Cuts.pure _) ?_
 refine Cuts.ite _ (Cuts.bind cuts_standing fun _ => Cuts.pure _) ?_
 refine Cuts.ite _ (Cuts.bind cuts_fee fun _ => Cuts.pure _) ?_
 exact Cuts.bind cuts_clause fun _ => Cuts.pure _
def defT (t : Tok) : Option (List UInt8) := if t.kind = 1 ∧ isDef t.text = true then some t.text else none
theorem defs_none {last : Int} {f : Nat} {c : Cat} {t : Tok} {r : List Tok} (h : defT t = none) : defs last (f + 1) c (t :: r) = .bad t.pos 100 := by
 unfold defT at h
 unfold defs
 simp only [define_eq]
 by_cases hk : t.kind = 1
 ·cases hd : isDef t.text with
  | true => simp [hk, hd] at h
  | false => rw [if_pos hk]; rfl
 ·rw [if_neg hk]; rfl
theorem defs_some {last : Int} {f : Nat} {c : Cat} {t : Tok} {r : List Tok} {w : List UInt8} (h : defT t = some w) : defs last (f + 1) c (t :: r) = (defineR last w c r).bind fun c l => defs last f c l := by
 unfold defT at h
 rw [defs]
 simp only [define_eq]
 by_cases hk : t.kind = 1 ∧ isDef t.text = true
 ·rw [if_pos hk] at h
  injection h with h
  rw [if_pos hk.1, if_pos hk.2, h]
 ·rw [if_neg hk] at h; cases h
theorem cuts_defsF : ∀ (f : Nat) (c : Cat), Cuts fun last l => defs last f c l
 | 0, c => Cuts.pure c
 | f + 1, c => by
  have hG : ∀ w, Cuts fun last l => (defineR last w c l).bind fun c l => defs last f c l := fun w => Cuts.bind (G := fun last c l => defs last f c l) (cuts_define w c) fun c => cuts_defsF f c
  refine ⟨fun last l x r h => ?_, fun last l p e h => ?_, fun last => .inr ⟨c, by simp [defs]⟩⟩
  ·cases l with
   | nil =>
    simp [defs] at h
    obtain ⟨rfl, rfl⟩ := h
    refine ⟨[], rfl, fun last' d b hd => ?_⟩
    have := (List.append_eq_nil_iff.1 hd.symm).1
    subst this
    simp [defs]
   | cons t l =>
    cases hf : defT t with
    | none => rw [defs_none hf] at h; cases h
    | some w =>
     rw [defs_some hf] at h
     obtain ⟨a, k1, k2⟩ := (hG w).ok last l x r h
     refine ⟨t :: a, by rw [k1]; rfl, fun last' d b hd => ?_⟩
     show defs last' (f + 1) c (t :: (a ++ d)) = _
     rw [defs_some hf]
     exact k2 last' d b hd
  ·cases l with
   | nil => simp [defs] at h
   | cons t l =>
    cases hf : defT t with
    | none =>
     rw [defs_none hf] at h
     injection h with ha hb
     subst ha; subst hb
     exact ⟨[], t :: l, rfl, rfl, .inl rfl, fun last' => .inr ⟨c, by simp [defs]⟩⟩
    | some w =>
     rw [defs_some hf] at h
     obtain ⟨a, b, k1, k2, k3, k4⟩ := (hG w).bad last l p e h
     refine ⟨t :: a, b, by rw [k1]; rfl, k2, k3, fun last' => ?_⟩
     rw [defs_some hf]
     exact k4 last'
theorem defs_fuel (last : Int) : ∀ (n m : Nat) (c : Cat) (l : List Tok), l.length + 0 ≤ n → l.length + 0 ≤ m → defs last n c l = defs last m c l
 | 0, 0, c, l, _, _ => rfl
 | 0, m + 1, c, l, h, _ => by
  have : l = [] := List.eq_nil_of_length_eq_zero (by omega)
  subst this; simp [defs]
 | n + 1, 0, c, l, _, h => by
  have : l = [] := List.eq_nil_of_length_eq_zero (by omega)
  subst this; simp [defs]
 | n + 1, m + 1, c, l, hn, hm => by
  cases l with
  | nil => simp [defs]
  | cons t l =>
   cases hf : defT t with
   | none => rw [defs_none hf, defs_none hf]
   | some w =>
    rw [defs_some hf, defs_some hf]
    cases h1 : defineR last w c l with
    | bad p e => rfl
    | ok c1 l1 =>
     have e1 := (cuts_define w c).shrinks h1
     simp only [R.bind]
     simp at hn hm
     exact defs_fuel last n m c1 l1 (by omega) (by omega)
theorem cuts_catalogue : Cuts fun last l => catalogue last l :=
 Cuts.fuel 0 (F := fun last n l => defs last n Cat.none l) (fun n => cuts_defsF n Cat.none) (fun last n m l h1 h2 => defs_fuel last n m Cat.none l h1 h2)
end Go.Proofs.YtjonaidancomgaaGreatDoor.Sx

namespace Go.Proofs.YtjonaidancomgaaGreatDoor.Lx

theorem comment_len {c : UInt8} {r : List UInt8} (h : comment (c :: r) = true) : 2 ≤ ((c :: r).takeWhile (· != 10)).length := by
 match r with
 | [] => simp [comment] at h
 | d :: r =>
  simp [comment] at h
  obtain ⟨rfl, rfl⟩ := h
  simp

end Go.Proofs.YtjonaidancomgaaGreatDoor.Lx

namespace Go.Proofs.YtjonaidancomgaaGreatDoor.Sx

mutual
def ruleEq : Rule → Rule → Bool
 | .mk o c n x d ks, .mk o' c' n' x' d' ks' => o == o' && (c == c' && (n == n' && (x == x' && (d == d' && rulesEq ks ks'))))
def rulesEq : List Rule → List Rule → Bool
 | [], [] => true
 | a :: as, b :: bs => ruleEq a b && rulesEq as bs
 | _, _ => false
end
mutual
theorem ruleEq_iff : ∀ (a b : Rule), ruleEq a b = true ↔ a = b
 | .mk o c n x d ks, .mk o' c' n' x' d' ks' => by
  rw [ruleEq]
  simp only [Bool.and_eq_true, beq_iff_eq, Rule.mk.injEq, rulesEq_iff ks ks']
theorem rulesEq_iff : ∀ (as bs : List Rule), rulesEq as bs = true ↔ as = bs
 | [], [] => by simp [rulesEq]
 | [], b :: bs => by simp [rulesEq]
 | a :: as, [] => by simp [rulesEq]
 | a :: as, b :: bs => by simp [rulesEq, ruleEq_iff a b, rulesEq_iff as bs]
end
theorem rulesEq_len : ∀ {as bs : List Rule}, as.length ≠ bs.length → rulesEq as bs = false
 | [], [], h => absurd rfl h
 | [], b :: bs, _ => by simp [rulesEq]
 | a :: as, [], _ => by simp [rulesEq]
 | a :: as, b :: bs, h => by
  rw [rulesEq, rulesEq_len (fun e => h (by simp [e]))]
  simp
theorem rulesEq_no {as bs : List Rule} {i : Nat} {a b : Rule} (ha : as[i]? = some a) (hb : bs[i]? = some b) (h : ruleEq a b = false) : rulesEq as bs = false := by
 cases he : rulesEq as bs with
 | false => rfl
 | true =>
  have := (rulesEq_iff as bs).1 he
  rw [this, hb] at ha
  injection ha with ha
  rw [(ruleEq_iff a b).2 ha.symm] at h
  cases h
theorem rulesEq_all {as bs : List Rule} (hl : as.length = bs.length) (h : ∀ (i : Nat) a b, as[i]? = some a → bs[i]? = some b → ruleEq a b = true) : rulesEq as bs = true := by
 rw [rulesEq_iff]
 refine List.ext_getElem? fun i => ?_
 rcases Nat.lt_or_ge i as.length with hi | hi
 ·have h1 := List.getElem?_eq_getElem hi
  have h2 := List.getElem?_eq_getElem (l := bs) (i := i) (by omega)
  rw [h1, h2, (ruleEq_iff _ _).1 (h i _ _ h1 h2)]
 ·rw [List.getElem?_eq_none hi, List.getElem?_eq_none (by omega)]
theorem kid_size {op co : Int} {nm : List UInt8} {n d : Int} {ks : List Rule} {x : Rule} {i : Nat} (h : ks[i]? = some x) : SizeOf.sizeOf x < SizeOf.sizeOf (Rule.mk op co nm n d ks) := by
 have h1 := List.sizeOf_lt_of_mem (List.mem_of_getElem? h)
 simp
 omega
end Go.Proofs.YtjonaidancomgaaGreatDoor.Sx

namespace Go.Proofs.YtjonaidancomgaaGreatDoor.Sx
open Lx (Tok)

def core (t : Tok) : Int × List UInt8 × Int := (t.kind, t.text, t.n)
def Sim (l m : List Tok) : Prop := l.map core = m.map core
theorem Sim.refl (l : List Tok) : Sim l l := rfl
theorem Sim.symm {l m : List Tok} (h : Sim l m) : Sim m l := Eq.symm h
theorem Sim.trans {l m n : List Tok} (h : Sim l m) (k : Sim m n) : Sim l n := Eq.trans h k
theorem Sim.length {l m : List Tok} (h : Sim l m) : l.length = m.length := by have := congrArg List.length h; simpa using this
theorem Sim.app {l m l' m' : List Tok} (h : Sim l m) (k : Sim l' m') : Sim (l ++ l') (m ++ m') := by unfold Sim at *; simp [h, k]
theorem Sim.nil {l : List Tok} (h : Sim l []) : l = [] := List.eq_nil_of_length_eq_zero h.length
theorem Sim.cons {l r : List Tok} {t : Tok} (h : Sim l (t :: r)) : ∃ u s, l = u :: s ∧ u.kind = t.kind ∧ u.text = t.text ∧ u.n = t.n ∧ Sim s r := by
 cases l with
 | nil => cases h
 | cons u s =>
  unfold Sim core at h
  simp only [List.map_cons, List.cons.injEq, Prod.mk.injEq] at h
  exact ⟨u, s, rfl, h.1.1, h.1.2.1, h.1.2.2, h.2⟩
def Mov {α : Type} (F : Int → List Tok → R α) : Prop := ∀ last l x r, F last l = .ok x r → ∀ last' l' m, Sim l' (l ++ m) → ∃ r', F last' l' = .ok x r' ∧ Sim r' (r ++ m)
def MovW {α : Type} (F : Int → List Tok → R α) : Prop := ∀ last l x r, F last l = .ok x r → r ≠ [] → ∀ last' l' m, Sim l' (l ++ m) → ∃ r', F last' l' = .ok x r' ∧ Sim r' (r ++ m)
def Wants {α : Type} (F : Int → List Tok → R α) : Prop := ∀ last x r, F last [] ≠ .ok x r
theorem Mov.pure {α : Type} (x : α) : Mov fun _ l => R.ok x l := fun last l y r h last' l' m hm => by
 injection h with h1 h2
 subst h1; subst h2
 exact ⟨l', rfl, hm⟩
theorem bind_ok {α β : Type} {r : R α} {f : α → List Tok → R β} {x : β} {l : List Tok} (h : r.bind f = .ok x l) : ∃ y l1, r = .ok y l1 ∧ f y l1 = .ok x l := by
 cases r with
 | bad p e => cases h
 | ok y l1 => exact ⟨y, l1, rfl, h⟩
theorem Mov.bind {α β : Type} {F : Int → List Tok → R α} {G : Int → α → List Tok → R β} (hF : Mov F) (hG : ∀ x, Mov fun last l => G last x l) : Mov fun last l => (F last l).bind (G last) := fun last l x r h last' l' m hm => by
 obtain ⟨y, l1, h1, h2⟩ := bind_ok h
 obtain ⟨r1, k1, k2⟩ := hF last l y l1 h1 last' l' m hm
 obtain ⟨r2, k3, k4⟩ := hG y last l1 x r h2 last' r1 m k2
 exact ⟨r2, by show (F last' l').bind (G last') = _; rw [k1]; exact k3, k4⟩
theorem MovW.bind {α β : Type} {F : Int → List Tok → R α} {G : Int → α → List Tok → R β} (hF : MovW F) (hG : ∀ x, MovW fun last l => G last x l) (hn : ∀ x, Cuts fun last l => G last x l) : MovW fun last l => (F last l).bind (G last) := fun last l x r h hr last' l' m hm => by
 obtain ⟨y, l1, h1, h2⟩ := bind_ok h
 have hl1 : l1 ≠ [] := fun e => by
  subst e
  have : r.length ≤ ([] : List Tok).length := (hn y).shrinks h2
  exact hr (List.eq_nil_of_length_eq_zero (Nat.le_zero.1 this))
 obtain ⟨r1, k1, k2⟩ := hF last l y l1 h1 hl1 last' l' m hm
 obtain ⟨r2, k3, k4⟩ := hG y last l1 x r h2 hr last' r1 m k2
 exact ⟨r2, by show (F last' l').bind (G last') = _; rw [k1]; exact k3, k4⟩
theorem MovW.then {α β : Type} {F : Int → List Tok → R α} {G : Int → α → List Tok → R β} (hF : MovW F) (hG : ∀ x, Mov fun last l => G last x l) (hn : ∀ x, Wants fun last l => G last x l) : Mov fun last l => (F last l).bind (G last) := fun last l x r h last' l' m hm => by
 obtain ⟨y, l1, h1, h2⟩ := bind_ok h
 have hl1 : l1 ≠ [] := fun e => by subst e; exact hn y last x r h2
 obtain ⟨r1, k1, k2⟩ := hF last l y l1 h1 hl1 last' l' m hm
 obtain ⟨r2, k3, k4⟩ := hG y last l1 x r h2 last' r1 m k2
 exact ⟨r2, by show (F last' l').bind (G last') = _; rw [k1]; exact k3, k4⟩
theorem Wants.bind {α β : Type} {F : Int → List Tok → R α} (G : Int → α → List Tok → R β) (h : Wants F) : Wants fun last l => (F last l).bind (G last) := fun last x r e => by
 obtain ⟨y, l1, h1, _⟩ := bind_ok e
 exact h last y l1 h1
theorem hit_sim {k : Int} {x : List UInt8} {l l' : List Tok} (h : Sim l' l) : hit k x l' = hit k x l := by
 cases l with
 | nil => rw [h.nil]
 | cons t r =>
  obtain ⟨u, s, rfl, h1, h2, _, _⟩ := h.cons
  show (u.kind == k && u.text == x) = (t.kind == k && t.text == x)
  rw [h1, h2]
theorem hit_app {k : Int} {x : List UInt8} {l m : List Tok} (hl : l ≠ []) : hit k x (l ++ m) = hit k x l := by
 cases l with
 | nil => exact absurd rfl hl
 | cons t r => rfl
theorem Sim.tail {l l' : List Tok} (h : Sim l' l) : Sim l'.tail l.tail := by
 cases l with
 | nil => rw [h.nil]; rfl
 | cons t r => obtain ⟨u, s, rfl, _, _, _, h4⟩ := h.cons; exact h4
theorem Mov.hit {α : Type} (k : Int) (x : List UInt8) {F G : Int → List Tok → R α} (hF : Mov F) (hG : Mov G) (hn : Wants G) : Mov fun last l => if hit k x l = true then F last l.tail else G last l := fun last l y r h last' l' m hm => by
 have hl : l ≠ [] := fun e => by subst e; exact hn last y r h
 have hh : Sx.hit k x l' = Sx.hit k x l := (hit_sim hm).trans (hit_app hl)
 show ∃ r', (if Sx.hit k x l' = true then F last' l'.tail else G last' l') = .ok y r' ∧ _
 replace h : (if Sx.hit k x l = true then F last l.tail else G last l) = .ok y r := h
 rw [hh]
 cases hc : Sx.hit k x l with
 | true =>
  rw [hc, if_pos rfl] at h
  rw [if_pos rfl]
  refine hF last l.tail y r h last' l'.tail m ?_
  have := hm.tail
  cases l with
  | nil => exact absurd rfl hl
  | cons t l => exact this
 | false =>
  rw [hc, if_neg (by simp)] at h
  rw [if_neg (by simp)]
  exact hG last l y r h last' l' m hm
theorem MovW.hit {α : Type} (k : Int) (x : List UInt8) {F G : Int → List Tok → R α} (hF : MovW F) (hG : MovW G) (hn : Cuts G) : MovW fun last l => if hit k x l = true then F last l.tail else G last l := fun last l y r h hr last' l' m hm => by
 have hl : l ≠ [] := fun e => by
  subst e
  have : r.length ≤ ([] : List Tok).length := hn.shrinks h
  exact hr (List.eq_nil_of_length_eq_zero (Nat.le_zero.1 this))
 have hh : Sx.hit k x l' = Sx.hit k x l := (hit_sim hm).trans (hit_app hl)
 show ∃ r', (if Sx.hit k x l' = true then F last' l'.tail else G last' l') = .ok y r' ∧ _
 replace h : (if Sx.hit k x l = true then F last l.tail else G last l) = .ok y r := h
 rw [hh]
 cases hc : Sx.hit k x l with
 | true =>
  rw [hc, if_pos rfl] at h
  rw [if_pos rfl]
  refine hF last l.tail y r h hr last' l'.tail m ?_
  have := hm.tail
  cases l with
  | nil => exact absurd rfl hl
  | cons t l => exact this
 | false =>
  rw [hc, if_neg (by simp)] at h
  rw [if_neg (by simp)]
  exact hG last l y r h hr last' l' m hm
theorem Mov.ite {α : Type} (p : Prop) [Decidable p] {F G : Int → List Tok → R α} (hF : Mov F) (hG : Mov G) : Mov fun last l => if p then F last l else G last l := by
 by_cases h : p
 ·simp only [if_pos h]; exact hF
 ·simp only [if_neg h]; exact hG
def Cat.app (a b : Cat) : Cat := ⟨a.courses ++ b.courses, a.same ++ b.same, a.progs ++ b.progs, a.classes ++ b.classes, a.fees ++ b.fees, a.honours ++ b.honours, a.clauses ++ b.clauses⟩
def R.map {α β : Type} (f : α → β) (r : R α) : R β := r.bind fun a l => .ok (f a) l
end Go.Proofs.YtjonaidancomgaaGreatDoor.Sx

namespace Go.Proofs.YtjonaidancomgaaGreatDoor.Sx
open Lx (Tok)

def R.void {α : Type} (r : R α) : R Unit := match r with | .ok _ l => .ok () l | .bad p e => .bad p e
def R.Val {α : Type} (r : R α) (a : α) : Prop := ∀ x l, r = .ok x l → x = a
def go {α : Type} (s : R Unit) (f : List Tok → R α) : R α := match s with | .ok _ l => f l | .bad p e => .bad p e
def R.hits (s : R Unit) (k : Int) (x : List UInt8) : Bool := match s with | .ok _ l => hit k x l | .bad _ _ => false
section
variable {α β : Type} {s : R Unit} {a : α}
theorem goOk (l : List Tok) (f : List Tok → R α) : go (.ok () l) f = f l := rfl
theorem go_bind (s : R Unit) (f : List Tok → R α) (g : α → List Tok → R β) : (go s f).bind g = go s fun l => (f l).bind g := by cases s <;> rfl
theorem R.Val.next {r : R α} (h : r.Val a) (g : α → List Tok → R β) : r.bind g = go r.void (g a) := by
 cases r with
 | ok x l => obtain rfl := h x l rfl; rfl
 | bad p e => rfl
theorem R.Val.step {f : List Tok → R α} (h : (go s f).Val a) (g : α → List Tok → R β) : go s (fun l => (f l).bind g) = go (go s f).void (g a) := by rw [← go_bind, h.next]
theorem R.Val.of_bad (p e : Int) (a : α) : R.Val (.bad p e) a := fun x l h => by cases h
theorem R.Val.of_ok (a : α) (l : List Tok) : R.Val (.ok a l) a := fun x r h => by injection h with h _; exact h.symm
theorem R.Val.done (s : R Unit) (a : α) : (go s fun l => .ok a l).Val a := by
 cases s with
 | ok u l => exact .of_ok a l
 | bad p e => exact .of_bad p e a
theorem R.Val.map {r : R α} (h : r.Val a) (f : α → β) : (r.bind fun x l => .ok (f x) l).Val (f a) := by
 rw [h.next]; exact .done _ _
theorem void_map (r : R α) (f : α → List Tok → β) : (r.bind fun x l => R.ok (f x l) l).void = r.void := by cases r <;> rfl
theorem hits_need (s : R Unit) {last k : Int} {x : List UInt8} (h : s.hits k x = true) : ∃ l, s = .ok () l ∧ hit k x l = true ∧ go s (need last k x) = .ok () l.tail := by
 cases s with
 | bad p e => cases h
 | ok u l =>
  have h' : hit k x l = true := h
  exact ⟨l, rfl, h', by show need last k x l = _; unfold need; rw [if_pos h']⟩
theorem hits_not {k : Int} {x : List UInt8} (h : s.hits k x = false) : (∃ p e, s = .bad p e) ∨ ∃ l, s = .ok () l ∧ hit k x l = false := by
 cases s with
 | bad p e => exact .inl ⟨p, e, rfl⟩
 | ok u l => exact .inr ⟨l, rfl, h⟩
theorem go_need_no {last k : Int} {x : List UInt8} (h : s.hits k x = false) : go s (need last k x) = go s fun l => fail last l 100 := by
 rcases hits_not h with ⟨p, e, rfl⟩ | ⟨l, rfl, h1⟩
 ·rfl
 ·show need last k x l = _; unfold need; rw [h1]; rfl
end
end Go.Proofs.YtjonaidancomgaaGreatDoor.Sx
