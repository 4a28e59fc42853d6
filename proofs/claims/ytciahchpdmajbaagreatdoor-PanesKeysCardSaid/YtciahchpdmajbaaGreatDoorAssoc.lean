/- Plain: sorted lists of keys and values; what a tree's put and get are on them. -/
import Derived.Test.YtciahchpdmajbaaGreatDoorPut1
import Derived.Test.YtciahchpdmajbaaGreatDoorMap1
import Derived.Test.YtciahchpdmajbaaGreatDoorPn
namespace Go.Proofs.YtciahchpdmajbaaGreatDoor

structure Ord {K : Type} (cmp : K → K → Int) : Prop where
  cases : ∀ a b, cmp a b = -1 ∨ cmp a b = 0 ∨ cmp a b = 1
  self : ∀ a, cmp a a = 0
  zero : ∀ a b, cmp a b = 0 → a = b
  flip : ∀ a b, cmp a b = 1 ↔ cmp b a = -1
  trans : ∀ a b c, cmp a b = -1 → cmp b c = -1 → cmp a c = -1
theorem ordS : Ord scmp := ⟨scmp_cases, scmp_self, fun _ _ => scmp_zero, fun _ _ => scmp_flip, fun _ _ _ => scmp_trans⟩
theorem ordA : Ord acmp := ⟨acmp_cases, acmp_self, fun _ _ => acmp_zero, fun _ _ => acmp_flip, fun _ _ _ => acmp_trans⟩

section
variable {K V W : Type} {cmp : K → K → Int}
def insA (cmp : K → K → Int) (k : K) (v : V) : List (K × V) → List (K × V)
  | [] => [(k, v)]
  | (k', v') :: L => if cmp k k' < 0 then (k, v) :: (k', v') :: L else if 0 < cmp k k' then (k', v') :: insA cmp k v L else (k', v) :: L
def getA (cmp : K → K → Int) (k : K) : List (K × V) → Option V
  | [] => none
  | (k', v') :: L => if cmp k k' = 0 then some v' else getA cmp k L
def Srt (cmp : K → K → Int) (L : List (K × V)) : Prop := L.Pairwise fun a b => cmp a.1 b.1 = -1

theorem Ord.neg_ne (o : Ord cmp) {a b : K} (h : cmp a b = -1) : a ≠ b := by
  rintro rfl
  rw [o.self] at h
  omega
theorem getA_none_of (o : Ord cmp) {k : K} {L : List (K × V)} (h : ∀ x ∈ L, k ≠ x.1) : getA cmp k L = none := by
  induction L with
  | nil => rfl
  | cons x L ih =>
    obtain ⟨k', v'⟩ := x
    rw [getA, if_neg (fun e => h _ (List.mem_cons_self ..) (o.zero _ _ e))]
    exact ih fun x hx => h x (List.mem_cons_of_mem _ hx)
theorem getA_append (k : K) (L1 L2 : List (K × V)) : getA cmp k (L1 ++ L2) = (getA cmp k L1).or (getA cmp k L2) := by
  induction L1 with
  | nil => simp [getA]
  | cons x L ih =>
    obtain ⟨k', v'⟩ := x
    simp only [List.cons_append, getA]
    split
    · simp
    · exact ih
theorem insA_left {k p : K} {v pv : V} (hk : cmp k p < 0) (L1 L2 : List (K × V)) : insA cmp k v (L1 ++ (p, pv) :: L2) = insA cmp k v L1 ++ (p, pv) :: L2 := by
  induction L1 with
  | nil => simp [insA, hk]
  | cons x L ih =>
    obtain ⟨k', v'⟩ := x
    simp only [List.cons_append, insA]
    split
    · simp
    · split
      · rw [ih]; simp
      · simp
theorem insA_right {k : K} {v : V} (L1 L2 : List (K × V)) (h : ∀ x ∈ L1, 0 < cmp k x.1) : insA cmp k v (L1 ++ L2) = L1 ++ insA cmp k v L2 := by
  induction L1 with
  | nil => rfl
  | cons x L ih =>
    obtain ⟨k', v'⟩ := x
    have h1 := h _ (List.mem_cons_self ..)
    simp only [List.cons_append, insA]
    rw [if_neg (by simp only at h1; omega), if_pos h1, ih fun x hx => h x (List.mem_cons_of_mem _ hx)]
theorem Srt.split {p : K} {pv : V} {L1 L2 : List (K × V)} (h : Srt cmp (L1 ++ (p, pv) :: L2)) : Srt cmp L1 ∧ Srt cmp L2 ∧ (∀ x ∈ L1, cmp x.1 p = -1) ∧ (∀ x ∈ L2, cmp p x.1 = -1) := by
  unfold Srt at h
  rw [List.pairwise_append, List.pairwise_cons] at h
  exact ⟨h.1, h.2.1.2, fun x hx => h.2.2 x hx _ (List.mem_cons_self ..), h.2.1.1⟩
theorem mem_insA (o : Ord cmp) {k : K} {v : V} {L : List (K × V)} (hs : Srt cmp L) {x : K × V} (hx : x ∈ insA cmp k v L) : x = (k, v) ∨ x ∈ L ∧ x.1 ≠ k := by
  induction L with
  | nil => exact .inl (by simpa [insA] using hx)
  | cons y L ih =>
    obtain ⟨k', v'⟩ := y
    have hs' := List.pairwise_cons.1 hs
    rw [insA] at hx
    split at hx
    · rename_i hlt
      have hneg : cmp k k' = -1 := by rcases o.cases k k' with h | h | h <;> omega
      rcases List.mem_cons.1 hx with rfl | hx
      · exact .inl rfl
      · refine .inr ⟨hx, ?_⟩
        rcases List.mem_cons.1 hx with rfl | hx
        · exact (o.neg_ne hneg).symm
        · exact (o.neg_ne (o.trans _ _ _ hneg (hs'.1 x hx))).symm
    · split at hx
      · rename_i hgt
        have hneg : cmp k' k = -1 := (o.flip _ _).1 (by rcases o.cases k k' with h | h | h <;> omega)
        rcases List.mem_cons.1 hx with rfl | hx
        · exact .inr ⟨List.mem_cons_self .., o.neg_ne hneg⟩
        · rcases ih hs'.2 hx with h | ⟨h, h'⟩
          · exact .inl h
          · exact .inr ⟨List.mem_cons_of_mem _ h, h'⟩
      · have he : k = k' := o.zero _ _ (by rcases o.cases k k' with h | h | h <;> omega)
        rcases List.mem_cons.1 hx with rfl | hx
        · exact .inl (by rw [he])
        · exact .inr ⟨List.mem_cons_of_mem _ hx, by rw [he]; exact (o.neg_ne (hs'.1 x hx)).symm⟩
theorem insA_srt (o : Ord cmp) {k : K} {v : V} {L : List (K × V)} (hs : Srt cmp L) : Srt cmp (insA cmp k v L) := by
  induction L with
  | nil => exact List.pairwise_singleton _ _
  | cons y L ih =>
    obtain ⟨k', v'⟩ := y
    have hs' := List.pairwise_cons.1 hs
    rw [insA]
    split
    · have hneg : cmp k k' = -1 := by rcases o.cases k k' with h | h | h <;> omega
      refine List.pairwise_cons.2 ⟨fun x hx => ?_, hs⟩
      rcases List.mem_cons.1 hx with rfl | hx
      · exact hneg
      · exact o.trans _ _ _ hneg (hs'.1 x hx)
    · split
      · have hneg : cmp k' k = -1 := (o.flip _ _).1 (by rcases o.cases k k' with h | h | h <;> omega)
        refine List.pairwise_cons.2 ⟨fun x hx => ?_, ih hs'.2⟩
        rcases mem_insA o hs'.2 hx with rfl | ⟨h, _⟩
        · exact hneg
        · exact hs'.1 x h
      · exact List.pairwise_cons.2 ⟨hs'.1, hs'.2⟩
theorem getA_insA_same (o : Ord cmp) (k : K) (v : V) (L : List (K × V)) : getA cmp k (insA cmp k v L) = some v := by
  induction L with
  | nil => simp [insA, getA, o.self]
  | cons y L ih =>
    obtain ⟨k', v'⟩ := y
    rw [insA]
    split
    · simp [getA, o.self]
    · split
      · rw [getA, if_neg (by omega)]; exact ih
      · rw [getA, if_pos (by rcases o.cases k k' with h | h | h <;> omega)]
theorem getA_insA_other (o : Ord cmp) {k j : K} (v : V) (hne : j ≠ k) (L : List (K × V)) : getA cmp j (insA cmp k v L) = getA cmp j L := by
  have h0 : cmp j k ≠ 0 := fun h => hne (o.zero _ _ h)
  induction L with
  | nil => simp [insA, getA, h0]
  | cons y L ih =>
    obtain ⟨k', v'⟩ := y
    rw [insA]
    split
    · rw [getA, if_neg h0]
    · split
      · rw [getA, getA, ih]
      · have he : k = k' := o.zero _ _ (by rcases o.cases k k' with h | h | h <;> omega)
        subst he
        rw [getA, getA, if_neg h0, if_neg h0]
theorem getA_mem (o : Ord cmp) {k : K} {v : V} {L : List (K × V)} (h : getA cmp k L = some v) : (k, v) ∈ L := by
  induction L with
  | nil => cases h
  | cons y L ih =>
    obtain ⟨k', v'⟩ := y
    rw [getA] at h
    split at h
    · rename_i h0
      injection h with h
      rw [o.zero _ _ h0, h]
      exact List.mem_cons_self ..
    · exact List.mem_cons_of_mem _ (ih h)
theorem mem_getA (o : Ord cmp) {L : List (K × V)} (hs : Srt cmp L) {x : K × V} (hx : x ∈ L) : getA cmp x.1 L = some x.2 := by
  induction L with
  | nil => cases hx
  | cons y L ih =>
    obtain ⟨k', v'⟩ := y
    have hs' := List.pairwise_cons.1 hs
    rw [getA]
    rcases List.mem_cons.1 hx with rfl | hx
    · rw [if_pos (o.self _)]
    · have h1 := hs'.1 x hx
      rw [if_neg (fun h => (o.neg_ne h1) (o.zero _ _ h).symm)]
      exact ih hs'.2 hx
/-- Two sorted lists that answer alike are one. -/
theorem srt_ext (o : Ord cmp) : ∀ {L M : List (K × V)}, Srt cmp L → Srt cmp M → (∀ k, getA cmp k L = getA cmp k M) → L = M
  | [], [], _, _, _ => rfl
  | [], (k, v) :: M, _, _, h => by have := h k; simp [getA, o.self] at this
  | (k, v) :: L, [], _, _, h => by have := h k; simp [getA, o.self] at this
  | (k, v) :: L, (j, u) :: M, hl, hm, h => by
    have hl' := List.pairwise_cons.1 hl
    have hm' := List.pairwise_cons.1 hm
    have e : k = j := by
      rcases o.cases k j with h1 | h1 | h1
      · have h2 := h k
        rw [getA, if_pos (o.self k), getA, if_neg (by omega), getA_none_of o fun x hx => o.neg_ne (o.trans _ _ _ h1 (hm'.1 x hx))] at h2
        cases h2
      · exact o.zero _ _ h1
      · have h1' := (o.flip _ _).1 h1
        have h2 := h j
        rw [getA, if_neg (by omega), getA, if_pos (o.self j), getA_none_of o fun x hx => o.neg_ne (o.trans _ _ _ h1' (hl'.1 x hx))] at h2
        cases h2
    subst e
    have e2 : v = u := by
      have h2 := h k
      rw [getA, if_pos (o.self k), getA, if_pos (o.self k)] at h2
      injection h2
    subst e2
    rw [srt_ext o hl'.2 hm'.2 fun i => ?_]
    by_cases hi : i = k
    · subst hi
      rw [getA_none_of o fun x hx => o.neg_ne (hl'.1 x hx), getA_none_of o fun x hx => o.neg_ne (hm'.1 x hx)]
    · have h2 := h i
      rwa [getA, if_neg (fun h => hi (o.zero _ _ h)), getA, if_neg (fun h => hi (o.zero _ _ h))] at h2

def All2 (R : V → W → Prop) : List V → List W → Prop
  | [], [] => True
  | a :: L, b :: G => R a b ∧ All2 R L G
  | _, _ => False
end
section
variable {K V W : Type} {cmp : K → K → Int}
theorem All2.imp {R S : V → W → Prop} : ∀ {L : List V} {G : List W}, All2 R L G → (∀ a ∈ L, ∀ b, R a b → S a b) → All2 S L G
  | [], [], _, _ => trivial
  | a :: _, b :: _, ⟨h, t⟩, hi => ⟨hi a (List.mem_cons_self ..) b h, t.imp fun a ha => hi a (List.mem_cons_of_mem _ ha)⟩
theorem All2.length {R : V → W → Prop} : ∀ {L : List V} {G : List W}, All2 R L G → L.length = G.length
  | [], [], _ => rfl
  | _ :: _, _ :: _, ⟨_, t⟩ => by rw [List.length_cons, List.length_cons, t.length]
theorem All2.snoc {R : V → W → Prop} {a : V} {b : W} : ∀ {L : List V} {G : List W}, All2 R L G → R a b → All2 R (L ++ [a]) (G ++ [b])
  | [], [], _, h => ⟨h, trivial⟩
  | _ :: _, _ :: _, ⟨h', t⟩, h => ⟨h', t.snoc h⟩
theorem All2.insA (o : Ord cmp) {R : K × V → K × W → Prop} (hk : ∀ a b, R a b → a.1 = b.1) {k : K} {v : V} {g : W} (h : R (k, v) (k, g)) :
    ∀ {L : List (K × V)} {G : List (K × W)}, All2 R L G → All2 R (insA cmp k v L) (insA cmp k g G)
  | [], [], _ => ⟨h, trivial⟩
  | (k1, v1) :: L, (k2, g2) :: G, ⟨h', t⟩ => by
    obtain rfl : k1 = k2 := hk _ _ h'
    simp only [Proofs.YtciahchpdmajbaaGreatDoor.insA]
    split
    · exact ⟨h, h', t⟩
    · split
      · exact ⟨h', t.insA o hk h⟩
      · have e : k = k1 := o.zero _ _ (by rcases o.cases k k1 with h | h | h <;> omega)
        subst e
        exact ⟨h, t⟩
theorem All2.getA {R : K × V → K × W → Prop} (hk : ∀ a b, R a b → a.1 = b.1) (o : Ord cmp) (k : K) :
    ∀ {L : List (K × V)} {G : List (K × W)}, All2 R L G → (getA cmp k L = none ∧ getA cmp k G = none) ∨ ∃ v g, getA cmp k L = some v ∧ getA cmp k G = some g ∧ R (k, v) (k, g)
  | [], [], _ => .inl ⟨rfl, rfl⟩
  | (k1, v1) :: L, (k2, g2) :: G, ⟨h', t⟩ => by
    obtain rfl : k1 = k2 := hk _ _ h'
    simp only [Proofs.YtciahchpdmajbaaGreatDoor.getA]
    split
    · rename_i h0
      exact .inr ⟨v1, g2, rfl, rfl, by rw [o.zero _ _ h0]; exact h'⟩
    · exact t.getA hk o k
end

/-! The tree's own put and get. -/
theorem put1_ins (k : ByteArray) (v : Sl) : ∀ t : Tr ByteArray Sl, Srt scmp t.list → t.put1 k v = insA scmp k v t.list
  | .nil, _ => rfl
  | .node b k' v' l r, hs => by
    obtain ⟨hl, hr, h1, h2⟩ := Srt.split hs
    rw [Tr.put1, Tr.list]
    split
    · rename_i h
      rw [insA_left h, put1_ins k v l hl]
    · have hL : ¬ scmp k k' < 0 := by assumption
      have hall : ∀ x ∈ l.list, 0 < scmp k x.1 := fun x hx => by
        have h3 : scmp x.1 k = -1 := by
          rcases scmp_cases k k' with h | h | h
          · omega
          · rw [scmp_zero h]; exact h1 x hx
          · exact scmp_trans (h1 x hx) (scmp_flip.1 h)
        have := scmp_flip.2 h3
        omega
      rw [insA_right _ _ hall, insA, if_neg hL]
      split
      · rw [put1_ins k v r hr]
      · rfl
theorem getS_get (k : ByteArray) : ∀ t : Tr ByteArray Sl, Srt scmp t.list → t.getS k = getA scmp k t.list
  | .nil, _ => rfl
  | .node b k' v' l r, hs => by
    obtain ⟨hl, hr, h1, h2⟩ := Srt.split hs
    rw [Tr.getS, Tr.list, getA_append, getA]
    split
    · rename_i h
      have h3 : scmp k k' = -1 := by rcases scmp_cases k k' with h | h | h <;> omega
      rw [getS_get k l hl, if_neg (by omega), getA_none_of ordS fun x hx => ordS.neg_ne (scmp_trans h3 (h2 x hx))]
      simp
    · split
      · rename_i h
        have h3 : scmp k' k = -1 := scmp_flip.1 (by rcases scmp_cases k k' with h | h | h <;> omega)
        rw [getS_get k r hr, if_neg (by omega), getA_none_of ordS fun x hx => (ordS.neg_ne (scmp_trans (h1 x hx) h3)).symm]
        simp
      · have h3 : scmp k k' = 0 := by rcases scmp_cases k k' with h | h | h <;> omega
        rw [if_pos h3, getA_none_of ordS fun x hx => by rw [scmp_zero h3]; exact (ordS.neg_ne (h1 x hx)).symm]
        simp
end Go.Proofs.YtciahchpdmajbaaGreatDoor
