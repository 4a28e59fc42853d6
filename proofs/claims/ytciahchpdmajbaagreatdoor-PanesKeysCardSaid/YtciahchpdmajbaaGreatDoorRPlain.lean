/- Plain: where an insertion into a sorted list lands; the keys of the grouping; the last panes by insertion. -/
import Derived.Test.YtciahchpdmajbaaGreatDoorLast1
namespace Go.Proofs.YtciahchpdmajbaaGreatDoor
open Go.RowKit

section
variable {K V : Type} {cmp : K → K → Int}
theorem insA_head {k : K} {v : V} : ∀ {L : List (K × V)}, (∀ x, L[0]? = some x → cmp k x.1 = -1) → insA cmp k v L = (k, v) :: L
  | [], _ => rfl
  | (k', v') :: L, h => by
    have h1 := h (k', v') rfl
    simp only [insA]
    rw [if_pos (by rw [show cmp k k' = -1 from h1]; decide)]
theorem insA_same (o : Ord cmp) {k : K} {v : V} {x : K × V} {L : List (K × V)} (h : x.1 = k) : insA cmp k v (x :: L) = (k, v) :: L := by
  obtain ⟨k', v'⟩ := x
  obtain rfl : k' = k := h
  simp only [insA]
  rw [o.self, if_neg (by decide), if_neg (by decide)]
theorem pos_of_neg (o : Ord cmp) {a b : K} (h : cmp a b = -1) : 0 < cmp b a := by rw [(o.flip b a).2 h]; decide
/-- Behind all that are less, before one that is greater. -/
theorem insA_new (o : Ord cmp) {k : K} {v : V} {L : List (K × V)} (q : Nat) (h1 : ∀ x ∈ L.take q, cmp x.1 k = -1) (h2 : ∀ x, L[q]? = some x → cmp k x.1 = -1) : insA cmp k v L = L.take q ++ (k, v) :: L.drop q := by
  have h := insA_right (cmp := cmp) (k := k) (v := v) (L.take q) (L.drop q) fun x hx => pos_of_neg o (h1 x hx)
  rw [List.take_append_drop] at h
  rw [h, insA_head fun x hx => h2 x (by rw [List.getElem?_drop] at hx; simpa using hx)]
theorem insA_old (o : Ord cmp) {k : K} {v : V} {L : List (K × V)} (q : Nat) (x : K × V) (h1 : ∀ x ∈ L.take q, cmp x.1 k = -1) (h2 : L[q]? = some x) (h3 : x.1 = k) : (insA cmp k v L).map Prod.fst = L.map Prod.fst := by
  have h := insA_right (cmp := cmp) (k := k) (v := v) (L.take q) (L.drop q) fun x hx => pos_of_neg o (h1 x hx)
  rw [List.take_append_drop] at h
  obtain ⟨hq, hx⟩ := List.getElem?_eq_some_iff.1 h2
  have hd : L.drop q = x :: L.drop (q + 1) := by rw [← hx]; exact List.drop_eq_getElem_cons hq
  have hL : L.map Prod.fst = (L.take q ++ L.drop q).map Prod.fst := by rw [List.take_append_drop]
  rw [h, hL, hd, insA_same o h3]
  simp [h3]
end

/-! The keys. -/
abbrev gkeys (ps : List Pn) : List ByteArray := (grp ps).map Prod.fst
theorem gkeys_old {ps : List Pn} {p : Pn} (q : Nat) (h1 : ∀ k ∈ (gkeys ps).take q, scmp k p.key = -1) (h2 : (gkeys ps)[q]? = some p.key) : gkeys (ps ++ [p]) = gkeys ps := by
  rw [List.getElem?_map, Option.map_eq_some_iff] at h2
  obtain ⟨x, h2, h3⟩ := h2
  show (grp (ps ++ [p])).map Prod.fst = _
  rw [grp_snoc]
  exact insA_old ordS q x (fun y hy => h1 y.1 (by rw [← List.map_take]; exact List.mem_map_of_mem hy)) h2 h3
theorem gkeys_new {ps : List Pn} {p : Pn} (q : Nat) (h1 : ∀ k ∈ (gkeys ps).take q, scmp k p.key = -1) (h2 : ∀ k, (gkeys ps)[q]? = some k → scmp p.key k = -1) : gkeys (ps ++ [p]) = (gkeys ps).take q ++ p.key :: (gkeys ps).drop q := by
  show (grp (ps ++ [p])).map Prod.fst = _
  rw [grp_snoc]
  rw [grpStep, insA_new ordS q (fun y hy => h1 y.1 (by rw [← List.map_take]; exact List.mem_map_of_mem hy)) (fun x hx => h2 x.1 (by rw [List.getElem?_map, hx]; rfl))]
  simp
theorem gkeys_length (ps : List Pn) : (gkeys ps).length ≤ ps.length := by rw [List.length_map]; exact grp_length ps
theorem grp_keys (ps : List Pn) : grp ps = (gkeys ps).map fun k => (k, keyed k ps) := by
  have h : ∀ x ∈ grp ps, x = (x.1, keyed x.1 ps) := fun x hx => by
    have := grp_mem (k := x.1) (g := x.2) hx
    rw [← this]
  rw [List.map_map]
  conv => lhs; rw [← List.map_id (grp ps)]
  exact List.map_congr_left h

/-! The last panes, one by one: of the list's first k panes those that are the last of their key and window. -/
def later (ps : List Pn) (k : Nat) : Bool := match ps[k]? with
  | none => false
  | some p => (ps.drop (k + 1)).any fun q => akOf q = akOf p
def fin (ps : List Pn) : Nat → List Pn
  | 0 => []
  | k + 1 => if later ps k then fin ps k else fin ps k ++ (ps[k]?).toList
/-- The last pane of a key and window. -/
def lastOne (a : Ak) (ps : List Pn) : Option Pn := (ps.filter fun q => akOf q = a).getLast?
theorem lst_one_from (a : Ak) : ∀ (ps : List Pn) (G : List (Ak × Pn)), getA acmp a (ps.foldl (fun G p => insA acmp (akOf p) p G) G) = (lastOne a ps).or (getA acmp a G)
  | [], G => by simp [lastOne]
  | p :: ps, G => by
    rw [List.foldl_cons, lst_one_from a ps]
    by_cases h : akOf p = a
    · have e1 : getA acmp a (insA acmp (akOf p) p G) = some p := by rw [← h]; exact getA_insA_same ordA _ _ _
      rw [e1]
      unfold lastOne
      rw [List.filter_cons_of_pos (by simp [h])]
      cases hf : ps.filter fun q => akOf q = a with
      | nil => simp
      | cons x l =>
        obtain ⟨z, hz⟩ : ∃ z, (x :: l).getLast? = some z := ⟨_, List.getLast?_cons⟩
        rw [List.getLast?_cons_cons, hz]
        rfl
    · have e1 : getA acmp a (insA acmp (akOf p) p G) = getA acmp a G := getA_insA_other ordA _ (fun e => h e.symm) _
      rw [e1]
      unfold lastOne
      rw [List.filter_cons_of_neg (by simp [h])]
theorem lst_one (a : Ak) (ps : List Pn) : getA acmp a (lst ps) = lastOne a ps := by
  rw [lst, lst_one_from]; simp [getA]
theorem later_iff {ps : List Pn} {k : Nat} {p : Pn} (h : ps[k]? = some p) : later ps k = true ↔ ∃ j, k < j ∧ ∃ q, ps[j]? = some q ∧ akOf q = akOf p := by
  simp only [later, h, List.any_eq_true, decide_eq_true_eq]
  constructor
  · rintro ⟨q, hq, he⟩
    obtain ⟨i, hi⟩ := List.mem_iff_getElem?.1 hq
    rw [List.getElem?_drop] at hi
    exact ⟨k + 1 + i, by omega, q, hi, he⟩
  · rintro ⟨j, hj, q, hq, he⟩
    refine ⟨q, List.mem_iff_getElem?.2 ⟨j - (k + 1), ?_⟩, he⟩
    rw [List.getElem?_drop]
    rwa [show k + 1 + (j - (k + 1)) = j by omega]
/-- Of what is kept, the panes of a key and window are the last one, once it is met. -/
theorem fin_filter (ps : List Pn) (a : Ak) : ∀ k, k ≤ ps.length → (fin ps k).filter (fun q => akOf q = a) = if ((ps.drop k).any fun q => akOf q = a) then [] else (lastOne a ps).toList
  | 0, _ => by
    simp only [fin, List.filter_nil, List.drop_zero]
    split
    · rfl
    · rename_i h
      have : ps.filter (fun q => akOf q = a) = [] := by
        rw [List.filter_eq_nil_iff]
        intro q hq he
        exact h (List.any_eq_true.2 ⟨q, hq, he⟩)
      simp [lastOne, this]
  | k + 1, hk => by
    have ih := fin_filter ps a k (by omega)
    have hlt : k < ps.length := by omega
    have hget : ps[k]? = some ps[k] := List.getElem?_eq_getElem hlt
    have hdrop : ps.drop k = ps[k] :: ps.drop (k + 1) := List.drop_eq_getElem_cons hlt
    rw [hdrop, List.any_cons] at ih
    have hl : later ps k = (ps.drop (k + 1)).any fun q => akOf q = akOf ps[k] := by simp [later, hget]
    simp only [fin]
    by_cases hlat : later ps k = true
    · rw [if_pos hlat, ih]
      rw [hl] at hlat
      by_cases ha : akOf ps[k] = a
      · subst ha
        rw [if_pos (by simp), if_pos hlat]
      · simp [ha]
    · rw [if_neg hlat, List.filter_append, ih, hget]
      rw [hl] at hlat
      by_cases ha : akOf ps[k] = a
      · have hl2 : ((ps.drop (k + 1)).any fun q => akOf q = a) = false := by rw [← ha]; simpa using hlat
        have hlast : lastOne a ps = some ps[k] := by
          unfold lastOne
          have e : ps = ps.take k ++ (ps[k] :: ps.drop (k + 1)) := by rw [← hdrop, List.take_append_drop]
          have e2 : (ps.drop (k + 1)).filter (fun q => akOf q = a) = [] := by
            rw [List.filter_eq_nil_iff]
            intro q hq he
            have : ((ps.drop (k + 1)).any fun q => decide (akOf q = a)) = true := List.any_eq_true.2 ⟨q, hq, he⟩
            rw [hl2] at this
            cases this
          rw [show ps.filter (fun q => decide (akOf q = a)) = (ps.take k ++ (ps[k] :: ps.drop (k + 1))).filter (fun q => decide (akOf q = a)) by rw [← e], List.filter_append, List.filter_cons_of_pos (by simp [ha]), e2]
          simp
        simp [ha, hl2, hlast]
      · simp [ha]
theorem lst_fin (ps : List Pn) : lst (fin ps ps.length) = lst ps := by
  refine srt_ext ordA (lst_srt _) (lst_srt _) fun a => ?_
  rw [lst_one, lst_one]
  show ((fin ps ps.length).filter _).getLast? = _
  rw [fin_filter ps a _ (Nat.le_refl _)]
  rw [List.drop_length, List.any_nil, if_neg (by decide)]
  cases lastOne a ps <;> rfl
/-- What is kept bears each key and window once: a pane that is last of its own is new among those before. -/
theorem fin_new (ps : List Pn) {k : Nat} {p : Pn} (hp : ps[k]? = some p) (x : Ak × Pn) (hx : x ∈ lst (fin ps k)) : x.1 ≠ akOf p := by
  intro he
  have h1 := mem_getA ordA (lst_srt _) hx
  rw [lst_one, he] at h1
  unfold lastOne at h1
  have hk := (List.getElem?_eq_some_iff.1 hp)
  obtain ⟨hk, hpk⟩ := hk
  rw [fin_filter ps (akOf p) k (Nat.le_of_lt hk), List.drop_eq_getElem_cons hk, hpk] at h1
  simp at h1
theorem fin_snoc {ps : List Pn} {k : Nat} {p : Pn} (hp : ps[k]? = some p) (h : later ps k = false) : fin ps (k + 1) = fin ps k ++ [p] := by simp [fin, h, hp]
theorem fin_stay {ps : List Pn} {k : Nat} (h : later ps k = true) : fin ps (k + 1) = fin ps k := by simp [fin, h]
end Go.Proofs.YtciahchpdmajbaaGreatDoor
