/- Plain: the groups put one behind the other, the last first, are alike to the list. -/
import Derived.Test.YtciahchpdmajbaaDoorLast1
namespace Go.Proofs.YtciahchpdmajbaaDoor
open Go.RowKit

def total {K : Type} : List (K × List Pn) → Nat
  | [] => 0
  | x :: G => x.2.length + total G
theorem total_insA (k : ByteArray) (g : List Pn) : ∀ {G : List (ByteArray × List Pn)}, Srt scmp G → total (insA scmp k g G) + ((getA scmp k G).getD []).length = total G + g.length
  | [], _ => by simp [insA, getA, total]
  | (k', g') :: G, hs => by
    have hs' := List.pairwise_cons.1 hs
    rw [insA, getA]
    split
    · rename_i h
      have h1 : scmp k k' = -1 := by rcases scmp_cases k k' with h | h | h <;> omega
      have h2 : getA scmp k G = none := getA_none_of ordS fun x hx => ordS.neg_ne (scmp_trans h1 (hs'.1 x hx))
      rw [if_neg (by omega), h2]
      simp [total]
      omega
    · split
      · have ih := total_insA k g hs'.2
        rw [if_neg (by omega)]
        simp only [total]
        omega
      · have h0 : scmp k k' = 0 := by rcases scmp_cases k k' with h | h | h <;> omega
        rw [if_pos h0]
        simp only [total, Option.getD_some]
        omega
theorem total_foldl : ∀ (ps : List Pn) (G : List (ByteArray × List Pn)), Srt scmp G → total (ps.foldl grpStep G) = total G + ps.length
  | [], G, _ => by simp
  | p :: ps, G, hs => by
    have h1 := total_insA p.key ((getA scmp p.key G).getD [] ++ [p]) hs
    have h2 := total_foldl ps (grpStep G p) (insA_srt ordS hs)
    rw [List.foldl_cons, h2, List.length_cons]
    unfold grpStep
    simp only [List.length_append, List.length_singleton] at h1
    omega
theorem total_grp (ps : List Pn) : total (grp ps) = ps.length := by
  have := total_foldl ps [] .nil
  simpa [total, grp] using this

/-- The groups' panes, from the last group back. -/
def back (G : List (ByteArray × List Pn)) : List Pn := G.reverse.flatMap fun x => x.2
theorem back_cons (x : ByteArray × List Pn) (G : List (ByteArray × List Pn)) : back (x :: G) = back G ++ x.2 := by simp [back]
theorem back_length : ∀ G : List (ByteArray × List Pn), (back G).length = total G
  | [] => rfl
  | x :: G => by rw [back_cons, List.length_append, back_length G, total]; omega
theorem total_drop : ∀ (G : List (ByteArray × List Pn)) (j : Nat), total (G.drop j) ≤ total G
  | [], j => by simp [total]
  | x :: G, 0 => by simp
  | x :: G, j + 1 => by
    have := total_drop G j
    simp only [List.drop_succ_cons, total]
    omega
theorem back_drop_len (ps : List Pn) (j : Nat) : (back ((grp ps).drop j)).length ≤ ps.length := by
  rw [back_length]
  have := total_drop (grp ps) j
  rw [total_grp] at this
  exact this
theorem back_drop {G : List (ByteArray × List Pn)} {j : Nat} (h : j < G.length) : back (G.drop j) = back (G.drop (j + 1)) ++ (G[j]).2 := by
  rw [List.drop_eq_getElem_cons h, back_cons]
abbrev bk (ps : List Pn) : List Pn := back (grp ps)
theorem bk_length (ps : List Pn) : (bk ps).length = ps.length := by rw [bk, back_length, total_grp]

theorem keyed_all {k : ByteArray} {ps : List Pn} (h : ∀ p ∈ ps, p.key = k) : keyed k ps = ps := by
  rw [keyed, List.filter_eq_self]
  intro p hp
  simp [h p hp]
theorem keyed_none {k : ByteArray} {ps : List Pn} (h : ∀ p ∈ ps, p.key ≠ k) : keyed k ps = [] := by
  rw [keyed, List.filter_eq_nil_iff]
  intro p hp
  have h2 : ¬ p.key.toList = k.toList := fun e => h p hp (toList_inj e)
  simpa using h2
theorem keyed_key {k : ByteArray} {ps : List Pn} : ∀ p ∈ keyed k ps, p.key = k := fun p hp => by
  have h := (List.mem_filter.1 hp).2
  exact toList_inj (by simpa using h)
theorem keyed_append (k : ByteArray) (a b : List Pn) : keyed k (a ++ b) = keyed k a ++ keyed k b := by simp [keyed]
theorem keyed_back (k : ByteArray) : ∀ {G : List (ByteArray × List Pn)}, Srt scmp G → (∀ x ∈ G, ∀ p ∈ x.2, p.key = x.1) → keyed k (back G) = (getA scmp k G).getD []
  | [], _, _ => rfl
  | (k', g) :: G, hs, hk => by
    have hs' := List.pairwise_cons.1 hs
    have ih := keyed_back k hs'.2 fun x hx => hk x (List.mem_cons_of_mem _ hx)
    rw [back_cons, keyed_append, ih, getA]
    by_cases h : scmp k k' = 0
    · have e := scmp_zero h
      subst e
      rw [if_pos h, getA_none_of ordS fun x hx => ordS.neg_ne (hs'.1 x hx)]
      simp only [Option.getD_none, List.nil_append, Option.getD_some]
      exact keyed_all (hk _ (List.mem_cons_self ..))
    · rw [if_neg h]
      have hne : ∀ p ∈ g, p.key ≠ k := fun p hp e => by
        have h2 := hk _ (List.mem_cons_self ..) p hp
        rw [e] at h2
        rw [h2, scmp_self] at h
        exact h rfl
      show _ ++ keyed k g = _
      rw [keyed_none hne, List.append_nil]
theorem keyed_bk (k : ByteArray) (ps : List Pn) : keyed k (bk ps) = keyed k ps := by
  rw [bk, keyed_back k (grp_srt ps) ?_, grp_getD]
  rintro ⟨k', g⟩ hx p hp
  have h := grp_mem hx
  subst h
  exact keyed_key p hp

/-- The last pane of a window. -/
def lastAt (a : Ak) (ps : List Pn) : Option Pn := (ps.filter fun p => decide (akOf p = a)).getLast?
theorem lst_get_from (a : Ak) : ∀ (ps : List Pn) (G : List (Ak × Pn)), getA acmp a (ps.foldl (fun G p => insA acmp (akOf p) p G) G) = (lastAt a ps).or (getA acmp a G)
  | [], G => by simp [lastAt]
  | p :: ps, G => by
    rw [List.foldl_cons, lst_get_from a ps]
    by_cases h : akOf p = a
    · have e1 : getA acmp a (insA acmp (akOf p) p G) = some p := by rw [← h]; exact getA_insA_same ordA _ _ _
      rw [e1]
      simp only [lastAt, List.filter_cons, h, decide_true, if_true]
      rw [List.getLast?_cons]
      cases hc : (List.filter (fun p => decide (akOf p = a)) ps).getLast? <;> simp
    · have e1 : getA acmp a (insA acmp (akOf p) p G) = getA acmp a G := getA_insA_other ordA _ (fun e => h e.symm) _
      rw [e1]
      simp [lastAt, h]
theorem lst_get (a : Ak) (ps : List Pn) : getA acmp a (lst ps) = lastAt a ps := by
  have h := lst_get_from a ps []
  rw [lst, h]
  cases lastAt a ps <;> simp [getA]
theorem lastAt_keyed (a : Ak) (ps : List Pn) : lastAt a ps = lastAt a (keyed a.key ps) := by
  unfold lastAt keyed
  rw [List.filter_filter]
  congr 1
  apply List.filter_congr
  intro p _
  by_cases h : akOf p = a
  · subst h
    simp
  · simp [h]
theorem lst_same {ps qs : List Pn} (h : ∀ k, keyed k ps = keyed k qs) : lst ps = lst qs :=
  srt_ext ordA (lst_srt ps) (lst_srt qs) fun a => by rw [lst_get, lst_get, lastAt_keyed a ps, lastAt_keyed a qs, h]
theorem lastOf_bk (ps : List Pn) : lastOf (bk ps) = lastOf ps := by
  show (lst _).map _ = (lst _).map _
  rw [lst_same (fun k => keyed_bk k ps)]
theorem lst_key_from : ∀ (ps : List Pn) (G : List (Ak × Pn)), Srt acmp G → (∀ x ∈ G, akOf x.2 = x.1) → ∀ x ∈ ps.foldl (fun G p => insA acmp (akOf p) p G) G, akOf x.2 = x.1
  | [], _, _, h => h
  | p :: ps, G, hs, h => by
    refine lst_key_from ps _ (insA_srt ordA hs) fun x hx => ?_
    rcases mem_insA ordA hs hx with rfl | ⟨hx, _⟩
    · rfl
    · exact h x hx
theorem lst_key (ps : List Pn) : ∀ x ∈ lst ps, akOf x.2 = x.1 := lst_key_from ps [] .nil (fun _ h => by cases h)
/-- Neighbours among the last panes are in order. -/
theorem lastOf_lt (ps : List Pn) {i j : Nat} (hij : i < j) (h : j < (lastOf ps).length) : acmp (akOf ((lastOf ps)[i]'(by omega))) (akOf (lastOf ps)[j]) = -1 := by
  have hl : (lastOf ps).length = (lst ps).length := List.length_map _
  have h1 := List.pairwise_iff_getElem.1 (lst_srt ps) i j (by omega) (by omega) hij
  have e : ∀ m (hm : m < (lst ps).length), akOf ((lst ps)[m]).2 = ((lst ps)[m]).1 := fun m hm => lst_key ps _ (List.getElem_mem hm)
  simp only [List.getElem_map]
  rw [e i (by omega), e j (by omega)]
  exact h1
theorem keyed_more (ps : List Pn) (p : Pn) : ¬ ∀ k, keyed k (bk ps ++ [p]) <+: keyed k ps := fun h => by
  have h1 := (h p.key).length_le
  rw [keyed_append, keyed_bk, List.length_append] at h1
  have h2 : keyed p.key [p] = [p] := keyed_all (by simp)
  rw [h2, List.length_singleton] at h1
  omega
theorem keyed_less (ps : List Pn) (p : Pn) : ∀ k, keyed k ps <+: keyed k (bk ps ++ [p]) := fun k => by
  rw [keyed_append, keyed_bk]
  exact List.prefix_append _ _
/-- Neighbours among the groups are in order. -/
theorem grp_lt (ps : List Pn) {i j : Nat} (hij : i < j) (h : j < (grp ps).length) : scmp ((grp ps)[i]'(by omega)).1 ((grp ps)[j]).1 = -1 :=
  List.pairwise_iff_getElem.1 (grp_srt ps) i j (by omega) h hij
theorem all2_get {V W : Type} {R : V → W → Prop} : ∀ {L : List V} {G : List W}, All2 R L G → ∀ (i : Nat) (h1 : i < L.length) (h2 : i < G.length), R L[i] G[i]
  | [], _, _, _, h, _ => by cases h
  | _ :: _, [], _, _, _, h => by cases h
  | a :: L, b :: G, ⟨h, t⟩, i, h1, h2 => by
    cases i with
    | zero => exact h
    | succ i => exact all2_get t i (by simpa using h1) (by simpa using h2)
end Go.Proofs.YtciahchpdmajbaaDoor
