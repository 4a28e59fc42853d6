/- Plain: panes grouped by keys; and what it means that a sorted list of slices in memory is such a grouping. -/
import Derived.Test.YtciahchpdmajbaaGreatDoorAssoc
import Derived.Test.YtciahchpdmajbaaGreatDoorOf
import Derived.Test.YtciahchpdmajbaaGreatDoorMake1
namespace Go.Proofs.YtciahchpdmajbaaGreatDoor
open Go.RowKit

/-- The panes of a key, in their order. -/
abbrev keyed (k : ByteArray) (ps : List Pn) : List Pn := ps.filter fun p => p.key.toList == k.toList
def grpStep (G : List (ByteArray × List Pn)) (p : Pn) : List (ByteArray × List Pn) := insA scmp p.key ((getA scmp p.key G).getD [] ++ [p]) G
def grp (ps : List Pn) : List (ByteArray × List Pn) := ps.foldl grpStep []
theorem grp_snoc (ps : List Pn) (p : Pn) : grp (ps ++ [p]) = grpStep (grp ps) p := by simp [grp]
theorem foldl_srt : ∀ (ps : List Pn) (G : List (ByteArray × List Pn)), Srt scmp G → Srt scmp (ps.foldl grpStep G)
  | [], _, h => h
  | _ :: ps, _, h => foldl_srt ps _ (insA_srt ordS h)
theorem grp_srt (ps : List Pn) : Srt scmp (grp ps) := foldl_srt ps [] .nil
theorem keyed_snoc (k : ByteArray) (ps : List Pn) (p : Pn) : keyed k (ps ++ [p]) = keyed k ps ++ if p.key = k then [p] else [] := by
  rw [keyed, List.filter_append]
  congr 1
  by_cases h : p.key = k
  · simp [h]
  · have h' : ¬ p.key.toList = k.toList := fun e => h (toList_inj e)
    simp [h, h']
theorem foldl_get (k : ByteArray) : ∀ (ps : List Pn) (G : List (ByteArray × List Pn)),
    (getA scmp k (ps.foldl grpStep G)).getD [] = (getA scmp k G).getD [] ++ keyed k ps
  | [], G => by simp
  | p :: ps, G => by
    rw [List.foldl_cons, foldl_get k ps, grpStep]
    by_cases h : p.key = k
    · subst h
      rw [getA_insA_same ordS]
      simp [keyed]
    · have h' : ¬ p.key.toList = k.toList := fun e => h (toList_inj e)
      rw [getA_insA_other ordS _ (fun e => h e.symm)]
      simp [keyed, h']
theorem grp_getD (k : ByteArray) (ps : List Pn) : (getA scmp k (grp ps)).getD [] = keyed k ps := by
  rw [grp, foldl_get]; simp [getA]
theorem foldl_ne : ∀ (ps : List Pn) (G : List (ByteArray × List Pn)), Srt scmp G → (∀ x ∈ G, x.2 ≠ []) → ∀ x ∈ ps.foldl grpStep G, x.2 ≠ []
  | [], _, _, h => h
  | p :: ps, G, hs, h => by
    refine foldl_ne ps _ (insA_srt ordS hs) fun x hx => ?_
    rcases mem_insA ordS hs hx with rfl | ⟨hx, _⟩
    · simp
    · exact h x hx
theorem grp_ne (ps : List Pn) : ∀ x ∈ grp ps, x.2 ≠ [] := foldl_ne ps [] .nil (fun _ h => by cases h)
theorem grp_get (k : ByteArray) (ps : List Pn) : getA scmp k (grp ps) = if keyed k ps = [] then none else some (keyed k ps) := by
  have h := grp_getD k ps
  cases hg : getA scmp k (grp ps) with
  | none => rw [hg] at h; rw [if_pos (by simpa using h.symm)]
  | some g =>
    rw [hg] at h
    have h2 := grp_ne ps _ (getA_mem ordS hg)
    rw [if_neg (by rw [← h]; exact h2)]
    rw [← h]; rfl
theorem grp_mem {k : ByteArray} {g : List Pn} {ps : List Pn} (h : (k, g) ∈ grp ps) : g = keyed k ps := by
  have h2 := mem_getA ordS (grp_srt ps) h
  have h3 := grp_getD k ps
  rw [h2] at h3
  exact h3
theorem grp_len_le {k : ByteArray} {g : List Pn} {ps : List Pn} (h : (k, g) ∈ grp ps) : g.length ≤ ps.length := by
  rw [grp_mem h]; exact List.length_filter_le _ _
theorem insA_len {K V : Type} (cmp : K → K → Int) (k : K) (v : V) (L : List (K × V)) : (insA cmp k v L).length ≤ L.length + 1 := by
  induction L with
  | nil => simp [insA]
  | cons x L ih =>
    obtain ⟨k', v'⟩ := x
    rw [insA]
    split
    · simp
    · split
      · simp; omega
      · simp
theorem foldl_len : ∀ (ps : List Pn) (G : List (ByteArray × List Pn)), (ps.foldl grpStep G).length ≤ G.length + ps.length
  | [], _ => by simp
  | p :: ps, G => by
    have h1 := foldl_len ps (grpStep G p)
    have h2 := insA_len scmp p.key ((getA scmp p.key G).getD [] ++ [p]) G
    rw [List.foldl_cons, List.length_cons]
    unfold grpStep at h1 ⊢
    omega
theorem grp_length (ps : List Pn) : (grp ps).length ≤ ps.length := by have := foldl_len ps []; simpa [grp] using this

/-- One entry: the slice is a row of its own, with the key's panes. -/
def Ent (B : Nat) (w : World) (a : ByteArray × Sl) (b : ByteArray × List Pn) : Prop := a.1 = b.1 ∧ a.2.n = b.2.length ∧ b.2 ≠ [] ∧ w.ownsRow B 40 9 a.2.val b.2.length (cellsOf b.2)
/-- Rows of different keys lie apart. -/
def Apart (L : List (ByteArray × Sl)) : Prop := ∀ x ∈ L, ∀ y ∈ L, x.2.a = y.2.a → x.1 = y.1
theorem Ent.key {B : Nat} {w : World} : ∀ a b, Ent B w a b → a.1 = b.1 := fun _ _ h => h.1
theorem Ent.own {B : Nat} {w : World} {a : ByteArray × Sl} {b : ByteArray × List Pn} (h : Ent B w a b) : ∃ g, a.2.a = some ⟨g, 0, none⟩ ∧ B ≤ g ∧ g < w.heap.size := by
  obtain ⟨g, cap, hv, h1, h2⟩ := h.2.2.2.form (by have := h.2.2.1; cases hb : b.2 with | nil => exact absurd hb this | cons => simp)
  refine ⟨g, ?_, h1, h2⟩
  have h3 : Value.slice a.2.a a.2.n a.2.c = _ := hv
  injection h3
/-- A row whose block is as it was is as it was. -/
theorem own_same {w w' : World} {B : Nat} {e : TypeId} {size n : Nat} {v : Value} {xs : List Value} (h : w.ownsRow B e size v n xs) (hk : ∀ g, v.ownBlock = some g → w'.heap[g]? = w.heap[g]?) : w'.ownsRow B e size v n xs := by
  refine ⟨h.1, ?_⟩
  rcases h.2 with hn | ⟨g, cap, cur, rfl, hb, hg, rest⟩
  · exact .inl hn
  · exact .inr ⟨g, cap, cur, rfl, hb, (hk g rfl).trans hg, rest⟩
theorem Ent.same {B : Nat} {w w' : World} {a : ByteArray × Sl} {b : ByteArray × List Pn} (h : Ent B w a b) (hk : ∀ g, a.2.a = some ⟨g, 0, none⟩ → w'.heap[g]? = w.heap[g]?) : Ent B w' a b := by
  refine ⟨h.1, h.2.1, h.2.2.1, own_same h.2.2.2 fun g hg => ?_⟩
  obtain ⟨g', hg', _⟩ := h.own
  refine hk g ?_
  have h3 : (Value.slice a.2.a a.2.n a.2.c).ownBlock = some g := hg
  rw [hg'] at h3 ⊢
  simp [Value.ownBlock] at h3
  rw [h3]
theorem Ent.below {B : Nat} {w w' : World} {a : ByteArray × Sl} {b : ByteArray × List Pn} (h : Ent B w a b) (hb : Below w.heap.size w w') : Ent B w' a b :=
  h.same fun g hg => by
    obtain ⟨g', hg', _, hlt⟩ := h.own
    rw [hg] at hg'
    injection hg' with hg'
    injection hg' with hg'
    exact hb.block g (by omega)
theorem Ent.only {B mb : Nat} {w w' : World} {a : ByteArray × Sl} {b : ByteArray × List Pn} (h : Ent B w a b) (hm : mb < B) (hb : Only mb w w') : Ent B w' a b :=
  h.same fun g hg => by
    obtain ⟨g', hg', hB, hlt⟩ := h.own
    rw [hg] at hg'
    injection hg' with hg'
    injection hg' with hg'
    exact hb.block g (by omega) (fun e => by injection e with e; omega)
theorem all2_insA {K V W : Type} {cmp : K → K → Int} (o : Ord cmp) {R R' : K × V → K × W → Prop} (hk : ∀ a b, R a b → a.1 = b.1) {k : K} {v : V} {g : W} (h : R' (k, v) (k, g)) :
    ∀ {L : List (K × V)} {G : List (K × W)}, Srt cmp L → All2 R L G → (∀ x ∈ L, x.1 ≠ k → ∀ b, R x b → R' x b) → All2 R' (insA cmp k v L) (insA cmp k g G)
  | [], [], _, _, _ => ⟨h, trivial⟩
  | (k1, v1) :: L, (k2, g2) :: G, hs, ⟨h', t⟩, hh => by
    obtain rfl : k1 = k2 := hk _ _ h'
    have hs' := List.pairwise_cons.1 hs
    simp only [Proofs.YtciahchpdmajbaaGreatDoor.insA]
    split
    · rename_i hlt
      have hneg : cmp k k1 = -1 := by rcases o.cases k k1 with h | h | h <;> omega
      exact ⟨h, hh _ (List.mem_cons_self ..) (o.neg_ne hneg).symm _ h', t.imp fun x hx b hb => hh x (List.mem_cons_of_mem _ hx) (o.neg_ne (o.trans _ _ _ hneg (hs'.1 x hx))).symm b hb⟩
    · split
      · rename_i hgt
        have hneg : cmp k1 k = -1 := (o.flip _ _).1 (by rcases o.cases k k1 with h | h | h <;> omega)
        exact ⟨hh _ (List.mem_cons_self ..) (o.neg_ne hneg) _ h', all2_insA o hk h hs'.2 t fun x hx => hh x (List.mem_cons_of_mem _ hx)⟩
      · have e : k = k1 := o.zero _ _ (by rcases o.cases k k1 with h | h | h <;> omega)
        subst e
        exact ⟨h, t.imp fun x hx b hb => hh x (List.mem_cons_of_mem _ hx) (o.neg_ne (hs'.1 x hx)).symm b hb⟩
end Go.Proofs.YtciahchpdmajbaaGreatDoor
