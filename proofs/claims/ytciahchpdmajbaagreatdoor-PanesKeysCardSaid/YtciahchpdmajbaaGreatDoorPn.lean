/- Plain: a pane, its cells; a window's key; how they are ordered. -/
import Derived.Test.YtciahchpdmajbaaGreatDoorLeaf
namespace Go.Proofs.YtciahchpdmajbaaGreatDoor
open Go.RowKit

/-- A pane. -/
structure Pn where
  key : ByteArray
  s : Int
  e : Int
  kind : Int
  nth : Int
  count : Int
  sum : Int
  min : Int
  max : Int
  deriving DecidableEq
abbrev Pn.cells (p : Pn) : List Value := [.string p.key, .int .i64 p.s, .int .i64 p.e, .int .i64 p.kind, .int .i64 p.nth, .int .i64 p.count, .int .i64 p.sum, .int .i64 p.min, .int .i64 p.max]
abbrev Pn.val (p : Pn) : Value := .agg #[.string p.key, .int .i64 p.s, .int .i64 p.e, .int .i64 p.kind, .int .i64 p.nth, .int .i64 p.count, .int .i64 p.sum, .int .i64 p.min, .int .i64 p.max]
def cellsOf (ps : List Pn) : List Value := ps.flatMap Pn.cells
theorem cellsOf_length (ps : List Pn) : (cellsOf ps).length = ps.length * 9 := by
  induction ps with
  | nil => rfl
  | cons p ps ih => simp only [cellsOf, List.flatMap_cons, List.length_append, List.length_cons] at ih ⊢; simp only [List.length_nil]; omega
theorem cellsOf_append (a b : List Pn) : cellsOf (a ++ b) = cellsOf a ++ cellsOf b := by simp [cellsOf]
theorem cellsOf_one (p : Pn) : cellsOf [p] = p.cells := by simp [cellsOf]
theorem cellsOf_at (ps : List Pn) : ∀ (i j : Nat) (hi : i < ps.length), j < 9 → (cellsOf ps)[i * 9 + j]? = (ps[i]).cells[j]? := by
  induction ps with
  | nil => intro i j hi; cases hi
  | cons p ps ih =>
    intro i j hi hj
    show (p.cells ++ cellsOf ps)[i * 9 + j]? = _
    cases i with
    | zero => rw [List.getElem?_append_left (by simp; omega)]; simp
    | succ i =>
      rw [List.getElem?_append_right (by simp; omega)]
      have e : (i + 1) * 9 + j - p.cells.length = i * 9 + j := by simp only [List.length_cons, List.length_nil]; omega
      rw [e, ih i j (by simpa using hi) hj]
      simp
theorem cellsOf_one' (ps : List Pn) : ∀ u ∈ cellsOf ps, u.oneCell' = true := by
  intro u hu
  obtain ⟨p, _, hp⟩ := List.mem_flatMap.1 hu
  simp at hp
  rcases hp with rfl | rfl | rfl | rfl | rfl | rfl | rfl | rfl | rfl <;> rfl

/-- A key and a window. -/
structure Ak where
  key : ByteArray
  s : Int
  e : Int
  deriving DecidableEq
abbrev Ak.cells (k : Ak) : List Value := [.string k.key, .int .i64 k.s, .int .i64 k.e]
abbrev Ak.val (k : Ak) : Value := .agg #[.string k.key, .int .i64 k.s, .int .i64 k.e]
def acmp (a b : Ak) : Int := if scmp a.key b.key ≠ 0 then scmp a.key b.key else if icmp a.s b.s ≠ 0 then icmp a.s b.s else icmp a.e b.e

/-! The orders. -/
theorem u8_tri (a b : UInt8) : a < b ∨ a = b ∨ b < a := by
  rw [UInt8.lt_iff_toNat_lt, UInt8.lt_iff_toNat_lt, ← UInt8.toNat_inj]; omega
theorem less_irrefl : ∀ l : List UInt8, Op.bytesLess l l = false
  | [] => by simp [Op.bytesLess]
  | a :: l => by simp [Op.bytesLess, less_irrefl l]
theorem less_asymm : ∀ a b : List UInt8, Op.bytesLess a b = true → Op.bytesLess b a = false
  | _, [], h => by simp [Op.bytesLess] at h
  | [], _ :: _, _ => by simp [Op.bytesLess]
  | a :: x, b :: y, h => by
    simp only [Op.bytesLess, Bool.or_eq_true, decide_eq_true_eq, Bool.and_eq_true, beq_iff_eq, Bool.or_eq_false_iff, decide_eq_false_iff_not, Bool.and_eq_false_imp] at h ⊢
    rcases h with h | ⟨rfl, h⟩
    · refine ⟨fun h' => ?_, fun e => ?_⟩
      · rw [UInt8.lt_iff_toNat_lt] at h h'; omega
      · subst e; rw [UInt8.lt_iff_toNat_lt] at h; omega
    · exact ⟨fun h' => by rw [UInt8.lt_iff_toNat_lt] at h'; omega, fun _ => less_asymm x y h⟩
theorem less_total : ∀ a b : List UInt8, Op.bytesLess a b = false → a ≠ b → Op.bytesLess b a = true
  | [], [], _, h => absurd rfl h
  | _ :: _, [], _, _ => by simp [Op.bytesLess]
  | [], _ :: _, h, _ => by simp [Op.bytesLess] at h
  | a :: x, b :: y, h, hne => by
    simp only [Op.bytesLess, Bool.or_eq_true, decide_eq_true_eq, Bool.and_eq_true, beq_iff_eq, Bool.or_eq_false_iff, decide_eq_false_iff_not, Bool.and_eq_false_imp] at h ⊢
    rcases u8_tri a b with h1 | rfl | h1
    · exact absurd h1 h.1
    · exact .inr ⟨rfl, less_total x y (h.2 rfl) fun e => hne (by rw [e])⟩
    · exact .inl h1
theorem less_trans : ∀ a b c : List UInt8, Op.bytesLess a b = true → Op.bytesLess b c = true → Op.bytesLess a c = true
  | _, [], _, h, _ => by simp [Op.bytesLess] at h
  | _, _ :: _, [], _, h => by simp [Op.bytesLess] at h
  | [], _ :: _, _ :: _, _, _ => by simp [Op.bytesLess]
  | a :: x, b :: y, c :: z, h, h' => by
    simp only [Op.bytesLess, Bool.or_eq_true, decide_eq_true_eq, Bool.and_eq_true, beq_iff_eq] at h h' ⊢
    rcases h with h | ⟨rfl, h⟩
    · rcases h' with h' | ⟨rfl, h'⟩
      · exact .inl (by rw [UInt8.lt_iff_toNat_lt] at *; omega)
      · exact .inl h
    · rcases h' with h' | ⟨rfl, h'⟩
      · exact .inl h'
      · exact .inr ⟨rfl, less_trans x y z h h'⟩
theorem toList_inj {a b : ByteArray} (h : a.toList = b.toList) : a = b := by
  rw [ByteArray.toList_eq, ByteArray.toList_eq] at h
  cases a; cases b; congr
  exact Array.toList_inj.1 h
theorem scmp_self (a : ByteArray) : scmp a a = 0 := by simp [scmp, less_irrefl]
theorem scmp_zero {a b : ByteArray} (h : scmp a b = 0) : a = b := by
  unfold scmp at h
  split at h
  · omega
  · split at h
    · rename_i h1; exact toList_inj (by simpa using h1)
    · omega
theorem scmp_neg {a b : ByteArray} : scmp a b = -1 ↔ Op.bytesLess a.toList b.toList = true := by
  unfold scmp
  constructor
  · intro h
    split at h
    · assumption
    · split at h <;> omega
  · intro h; rw [if_pos h]
theorem scmp_flip {a b : ByteArray} : scmp a b = 1 ↔ scmp b a = -1 := by
  rw [scmp_neg]
  unfold scmp
  constructor
  · intro h
    split at h
    · omega
    · rename_i h1
      split at h
      · omega
      · rename_i h2
        exact less_total _ _ (by simpa using h1) (by simpa using h2)
  · intro h
    have h1 := less_asymm _ _ h
    rw [if_neg (by simp [h1])]
    rw [if_neg ?_]
    intro e
    have e' : a.toList = b.toList := by simpa using e
    rw [e', less_irrefl] at h
    cases h
theorem scmp_trans {a b c : ByteArray} (h : scmp a b = -1) (h' : scmp b c = -1) : scmp a c = -1 := by
  rw [scmp_neg] at *
  exact less_trans _ _ _ h h'
theorem icmp_cases (a b : Int) : icmp a b = -1 ∨ icmp a b = 0 ∨ icmp a b = 1 := by unfold icmp; repeat' split; all_goals omega
theorem acmp_cases (a b : Ak) : acmp a b = -1 ∨ acmp a b = 0 ∨ acmp a b = 1 := by
  unfold acmp
  split
  · exact scmp_cases _ _
  · split
    · exact icmp_cases _ _
    · exact icmp_cases _ _
theorem icmp_zero {a b : Int} (h : icmp a b = 0) : a = b := by
  unfold icmp at h
  repeat' split at h
  all_goals omega
theorem icmp_neg {a b : Int} : icmp a b = -1 ↔ a < b := by
  unfold icmp
  repeat' split
  all_goals omega
theorem icmp_flip {a b : Int} : icmp a b = 1 ↔ icmp b a = -1 := by
  unfold icmp
  repeat' split
  all_goals omega
theorem icmp_self (a : Int) : icmp a a = 0 := by simp [icmp]
theorem acmp_self (a : Ak) : acmp a a = 0 := by simp [acmp, scmp_self, icmp_self]
theorem acmp_zero {a b : Ak} (h : acmp a b = 0) : a = b := by
  unfold acmp at h
  split at h
  · contradiction
  · rename_i h1
    split at h
    · contradiction
    · rename_i h2
      cases a; cases b
      simp only [Decidable.not_not] at h1 h2
      have := scmp_zero h1
      have := icmp_zero h2
      have := icmp_zero h
      simp_all
theorem acmp_k {a b : Ak} (h : scmp a.key b.key ≠ 0) : acmp a b = scmp a.key b.key := by unfold acmp; rw [if_pos h]
theorem acmp_s {a b : Ak} (h : scmp a.key b.key = 0) (h2 : icmp a.s b.s ≠ 0) : acmp a b = icmp a.s b.s := by unfold acmp; rw [if_neg (show ¬ scmp a.key b.key ≠ 0 from fun k => k h), if_pos h2]
theorem acmp_e {a b : Ak} (h : scmp a.key b.key = 0) (h2 : icmp a.s b.s = 0) : acmp a b = icmp a.e b.e := by unfold acmp; rw [if_neg (show ¬ scmp a.key b.key ≠ 0 from fun k => k h), if_neg (show ¬ icmp a.s b.s ≠ 0 from fun k => k h2)]
theorem acmp_neg {a b : Ak} : acmp a b = -1 ↔ scmp a.key b.key = -1 ∨ a.key = b.key ∧ (a.s < b.s ∨ a.s = b.s ∧ a.e < b.e) := by
  by_cases h1 : scmp a.key b.key = 0
  · have hk := scmp_zero h1
    by_cases h2 : icmp a.s b.s = 0
    · have hs := icmp_zero h2
      rw [acmp_e h1 h2, icmp_neg]
      constructor
      · intro h; exact .inr ⟨hk, .inr ⟨hs, h⟩⟩
      · rintro (h | ⟨_, h | ⟨_, h⟩⟩) <;> omega
    · rw [acmp_s h1 h2, icmp_neg]
      have hs : a.s ≠ b.s := fun e => h2 (by rw [e, icmp_self])
      constructor
      · intro h; exact .inr ⟨hk, .inl h⟩
      · rintro (h | ⟨_, h | ⟨h, _⟩⟩)
        · omega
        · exact h
        · exact absurd h hs
  · rw [acmp_k h1]
    constructor
    · exact .inl
    · rintro (h | ⟨h, _⟩)
      · exact h
      · rw [h, scmp_self] at h1; exact absurd rfl h1
theorem acmp_flip {a b : Ak} : acmp a b = 1 ↔ acmp b a = -1 := by
  by_cases h1 : scmp a.key b.key = 0
  · have h1' : scmp b.key a.key = 0 := by rw [scmp_zero h1, scmp_self]
    by_cases h2 : icmp a.s b.s = 0
    · have h2' : icmp b.s a.s = 0 := by rw [icmp_zero h2, icmp_self]
      rw [acmp_e h1 h2, acmp_e h1' h2']
      exact icmp_flip
    · have h2' : icmp b.s a.s ≠ 0 := fun h => h2 (by rw [icmp_zero h, icmp_self])
      rw [acmp_s h1 h2, acmp_s h1' h2']
      exact icmp_flip
  · have h1' : scmp b.key a.key ≠ 0 := fun h => h1 (by rw [scmp_zero h, scmp_self])
    rw [acmp_k h1, acmp_k h1']
    exact scmp_flip
theorem acmp_trans {a b c : Ak} (h : acmp a b = -1) (h' : acmp b c = -1) : acmp a c = -1 := by
  rw [acmp_neg] at *
  rcases h with h | ⟨hk, h⟩ <;> rcases h' with h' | ⟨hk', h'⟩
  · exact .inl (scmp_trans h h')
  · exact .inl (hk' ▸ h)
  · exact .inl (hk ▸ h')
  · exact .inr ⟨hk.trans hk', by omega⟩
end Go.Proofs.YtciahchpdmajbaaGreatDoor
