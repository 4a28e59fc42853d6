/- The rows of panes behind a Go map. -/
import Derived.Test.YtciahchpdmajbaaGreatDoorGm
namespace Go.Proofs.YtciahchpdmajbaaGreatDoor
open Go.RowKit
attribute [local go_sem ↓] Go.wp_at_zero Go.wp_at_succ

/-- The map's answers are rows of its own, one for each key, apart. -/
def GRows (B : Nat) (W : World) (f : ByteArray → Value) (ps : List Pn) : Prop :=
  (∀ k, W.ownsRow B 40 9 (f k) (keyed k ps).length (cellsOf (keyed k ps))) ∧ ∀ j k g, (f j).ownBlock = some g → (f k).ownBlock = some g → j = k
theorem GRows.nil (B : Nat) (W : World) : GRows B W (fun _ => noSl) [] := ⟨fun _ => World.ownsRow_nil _ _ _ _, fun j k g h => by simp [Value.ownBlock] at h⟩
/-- The key's row has grown by one pane. -/
theorem GRows.put {B mb g cap : Nat} {W w1 w2 : World} {f : ByteArray → Value} {ps : List Pn} {p : Pn} (h : GRows B W f ps) (hB : mb < B)
    (hown : w1.ownsRow B 40 9 (.slice (some ⟨g, 0, none⟩) ((keyed p.key ps).length + 1) cap) ((keyed p.key ps).length + 1) (cellsOf (keyed p.key ps) ++ p.cells))
    (hgrow : W.grownBy w1 (f p.key).ownBlock) (hat : (f p.key).ownBlock = some g ∨ W.heap.size ≤ g) (ho : w1.grownBy w2 (some mb)) :
    GRows B w2 (upd f p.key (.slice (some ⟨g, 0, none⟩) ((keyed p.key ps).length + 1) cap)) (ps ++ [p]) := by
  have hblk : ∀ j gj, (f j).ownBlock = some gj → B ≤ gj ∧ gj < W.heap.size := fun j gj hj => by
    obtain ⟨h1, cs, h2⟩ := own_block (h.1 j) hj
    exact ⟨h1, Tr.lt_of_some h2⟩
  have hne : ∀ j, j ≠ p.key → (f j).ownBlock ≠ some g := fun j hj e => by
    rcases hat with hat | hat
    · exact hj (h.2 _ _ g e hat)
    · have := (hblk j g e).2
      omega
  refine ⟨fun k => ?_, fun j k gj hj hk => ?_⟩
  · rw [keyed_snoc]
    unfold upd
    by_cases hk : k = p.key
    · subst hk
      rw [if_pos rfl, if_pos rfl, cellsOf_append, cellsOf_one, List.length_append]
      refine own_same hown fun r hr => ho.block r ?_ ?_
      · exact Tr.lt_of_some (own_block hown hr).2.choose_spec
      · have := (own_block hown hr).1
        intro e
        injection e with e
        omega
    · rw [if_neg hk, if_neg (fun e => hk e.symm), List.append_nil]
      refine own_same (h.1 k) fun r hr => ?_
      have hb := hblk k r hr
      have h1 : w1.heap[r]? = W.heap[r]? := hgrow.block r hb.2 fun e => hk (h.2 _ _ r hr e.symm)
      rw [← h1]
      exact ho.block r (Nat.lt_of_lt_of_le hb.2 hgrow.size) fun e => by injection e with e; omega
  · unfold upd at hj hk
    split at hj <;> split at hk
    · rename_i h1 h2
      rw [h1, h2]
    · rename_i h1 h2
      exact absurd (hk.trans (by rw [← hj]; rfl : some gj = some g)) (hne k h2)
    · rename_i h1 h2
      exact absurd (hj.trans (by rw [← hk]; rfl : some gj = some g)) (hne j h1)
    · exact h.2 _ _ gj hj hk
theorem GRows.below {B : Nat} {W W' : World} {f : ByteArray → Value} {ps : List Pn} (h : GRows B W f ps) (hb : Below W.heap.size W W') : GRows B W' f ps :=
  ⟨fun k => own_same (h.1 k) fun r hr => hb.block r (Tr.lt_of_some (own_block (h.1 k) hr).2.choose_spec), h.2⟩

/-- A row of one's own reads as its panes. -/
theorem own_rd {w : World} {B : Nat} {v : Value} {ps : List Pn} (h : w.ownsRow B 40 9 v ps.length (cellsOf ps)) : ∃ A c, v = .slice A ps.length c ∧ Rd w A ps ∧ ps.length ≤ c := by
  rcases Nat.eq_zero_or_pos ps.length with h0 | h0
  · obtain ⟨A, c, rfl⟩ := own_shape h
    exact ⟨A, c, rfl, fun i hi => by omega, by omega⟩
  · obtain ⟨g, c, rfl, _, _⟩ := h.form h0
    refine ⟨_, c, rfl, fun i hi => ⟨g, 0, rfl, fun j u hu => ?_⟩, own_cap h⟩
    have hj : j < 9 := by
      have := (List.getElem?_eq_some_iff.1 hu).1
      simpa using this
    have h1 := h.cells rfl (i * 9 + j) u (by rw [cellsOf_at ps i j hi hj]; exact hu)
    have e : (⟨g, 0, none⟩ : Addr).add (i * 9 + j) = ⟨g, 0 + i * 9 + j, none⟩ := by unfold Addr.add; split <;> simp_all
    rw [← e]
    exact h1
/-- What the map answers is what is still to come. -/
def Rest (W : World) (f : ByteArray → Value) (la lb : List Pn) : Prop :=
  ∀ k, ∃ A c rs, f k = .slice A rs.length c ∧ Rd W A rs ∧ keyed k lb = keyed k la ++ rs ∧ rs.length ≤ c
theorem GRows.rest {B : Nat} {W : World} {f : ByteArray → Value} {ps : List Pn} (h : GRows B W f ps) : Rest W f [] ps := fun k => by
  obtain ⟨A, c, h1, h2, h3⟩ := own_rd (h.1 k)
  exact ⟨A, c, _, h1, h2, by simp, h3⟩
theorem Rest.below {W W' : World} {f : ByteArray → Value} {la lb : List Pn} (h : Rest W f la lb) (hb : Below W.heap.size W W') : Rest W' f la lb := fun k => by
  obtain ⟨A, c, rs, h1, h2, h3⟩ := h k
  exact ⟨A, c, rs, h1, h2.keep hb, h3⟩
/-- A map's block is no cells: what reads stays. -/
theorem Rd.map {W W' : World} {A : Option Addr} {ps : List Pn} {mb : Nat} (h : Rd W A ps) (hg : W.grownBy W' (some mb)) (hm : ∀ o, W.cell? ⟨mb, o, none⟩ = none) : Rd W' A ps := fun i hi => by
  obtain ⟨b, o, hA, hc⟩ := h i hi
  refine ⟨b, o, hA, fun j u hu => ?_⟩
  have h1 := hc j u hu
  refine (hg.cell_far _ (World.block_lt_of_cell? W _ h1) fun e => ?_).trans h1
  injection e with e
  have e : b = mb := e
  subst e
  rw [hm] at h1
  cases h1
theorem GM.none {w : World} {b n : Nat} {f : ByteArray → Value} (h : GM w b n f) (o : Nat) : w.cell? ⟨b, o, Option.none⟩ = Option.none := by
  obtain ⟨D, ⟨es, clock, hb, _⟩, _⟩ := h
  simp [World.cell?, hb]
/-- One pane less to come. -/
theorem Rest.step {W W' : World} {f : ByteArray → Value} {la lb : List Pn} {p : Pn} {b o c n mb : Nat} {rs : List Pn} (h : Rest W f la lb) (hg : W.grownBy W' (some mb)) (hm : ∀ o, W.cell? ⟨mb, o, none⟩ = none)
    (hrd : Rd W (some ⟨b, o, none⟩) (p :: rs)) (hk : keyed p.key lb = keyed p.key la ++ p :: rs) (hn : rs.length = n) (hc : n ≤ c) (A : Option Addr) (hA : 0 < n → A = some ⟨b, o + 9, none⟩) :
    Rest W' (upd f p.key (.slice A n c)) (la ++ [p]) lb := fun k => by
  subst hn
  unfold upd
  split
  · rename_i e
    subst e
    refine ⟨A, c, rs, rfl, fun i hi => ?_, by rw [keyed_snoc, if_pos rfl, hk]; simp, hc⟩
    rw [hA (by omega)]
    refine ⟨b, o + 9, rfl, fun j u hu => ?_⟩
    obtain ⟨b', o', he, h1⟩ := (hrd.map hg hm) (i + 1) (by simp; omega)
    injection he with he
    injection he with he1 he2
    subst he1 he2
    have h2 := h1 j u (by simpa using hu)
    rw [show o + 9 + i * 9 + j = o + (i + 1) * 9 + j by omega]
    exact h2
  · rename_i e
    obtain ⟨A1, c1, r1, h1, h2, h3, h4⟩ := h k
    exact ⟨A1, c1, r1, h1, h2.map hg hm, by rw [keyed_snoc, if_neg (fun e2 => e e2.symm), List.append_nil]; exact h3, h4⟩
end Go.Proofs.YtciahchpdmajbaaGreatDoor
