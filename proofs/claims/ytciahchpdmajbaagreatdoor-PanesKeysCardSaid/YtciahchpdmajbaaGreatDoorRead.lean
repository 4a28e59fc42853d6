/- From the arguments' data to what the walks ask. -/
import Derived.Test.YtciahchpdmajbaaGreatDoorOf
import Derived.ChangeSame
import Derived.Deep.Slices
namespace Go.Proofs.YtciahchpdmajbaaGreatDoor
open Go.RowKit Go.ChangeShapes Go.WideShapes Go.Deep

theorem cells_string : Tryz.prog.cellsOf 9 = 1 := by kernel_rfl
theorem cells_Span : Tryz.prog.cellsOf 35 = 2 := by kernel_rfl
theorem cells_Kind : Tryz.prog.cellsOf 36 = 1 := by kernel_rfl
theorem cells_int64 : Tryz.prog.cellsOf 2 = 1 := by kernel_rfl
theorem cells_Tally : Tryz.prog.cellsOf 38 = 4 := by kernel_rfl
theorem cells_Pane : Tryz.prog.cellsOf 40 = 9 := by kernel_rfl
theorem plain_addr {w : World} {a : Addr} {v : Value} (h : w.cell? a = some v) : a = ⟨a.block, a.off, none⟩ := by
  obtain ⟨b, o, s⟩ := a
  cases s with
  | none => rfl
  | some s =>
    unfold World.cell? at h
    split at h <;> simp at h

section
variable {H : Type} {enc : TypeId × Value → H} {w : World} {base : Nat} {spare : Nat → Bool} {held : Bool}
set_option maxRecDepth 100000 in
theorem trod_pane {fuel : Nat} {cs : List Value} {x : DataW H × List MemPlace} (h : DataW.trod enc Tryz.prog w base spare held fuel 40 cs = some x) : ∃ p : Pn, cs = p.cells ∧ p.key.size ≤ maxLen := by
  obtain ⟨xs, n, _, _, hl, hx, hf⟩ := DataW.trod_struct Tryz.underlying40 h
  rw [cells_Pane] at hl
  match cs, hl with
  | [c0, c1, c2, c3, c4, c5, c6, c7, c8], _ =>
    match xs, hx with
    | [y0, y1, y2, y3, y4], _ =>
      have h0 : DataW.trod enc Tryz.prog w base spare held n 9 [c0] = some y0 := by
        have h : DataW.trod enc Tryz.prog w base spare held n 9 (([c0, c1, c2, c3, c4, c5, c6, c7, c8].drop 0).take (Tryz.prog.cellsOf 9)) = some y0 := hf 0 _ rfl
        rw [cells_string] at h
        exact h
      have h1 : DataW.trod enc Tryz.prog w base spare held n 35 [c1, c2] = some y1 := by
        have h : DataW.trod enc Tryz.prog w base spare held n 35 (([c0, c1, c2, c3, c4, c5, c6, c7, c8].drop 1).take (Tryz.prog.cellsOf 35)) = some y1 := hf 1 _ rfl
        rw [cells_Span] at h
        exact h
      have h2 : DataW.trod enc Tryz.prog w base spare held n 36 [c3] = some y2 := by
        have h : DataW.trod enc Tryz.prog w base spare held n 36 (([c0, c1, c2, c3, c4, c5, c6, c7, c8].drop 3).take (Tryz.prog.cellsOf 36)) = some y2 := hf 2 _ rfl
        rw [cells_Kind] at h
        exact h
      have h3 : DataW.trod enc Tryz.prog w base spare held n 2 [c4] = some y3 := by
        have h : DataW.trod enc Tryz.prog w base spare held n 2 (([c0, c1, c2, c3, c4, c5, c6, c7, c8].drop 4).take (Tryz.prog.cellsOf 2)) = some y3 := hf 3 _ rfl
        rw [cells_int64] at h
        exact h
      have h4 : DataW.trod enc Tryz.prog w base spare held n 38 [c5, c6, c7, c8] = some y4 := by
        have h : DataW.trod enc Tryz.prog w base spare held n 38 (([c0, c1, c2, c3, c4, c5, c6, c7, c8].drop 5).take (Tryz.prog.cellsOf 38)) = some y4 := hf 4 _ rfl
        rw [cells_Tally] at h
        exact h
      obtain ⟨s, e0, _, hs⟩ := DataW.trod_string Tryz.underlying9 h0
      obtain ⟨n3, e3, _⟩ := DataW.trod_int Tryz.underlying36 h2
      obtain ⟨n4, e4, _⟩ := DataW.trod_int Tryz.underlying2 h3
      obtain ⟨zs, m, _, _, _, hz, hg⟩ := DataW.trod_struct Tryz.underlying35 h1
      obtain ⟨us, m', _, _, _, hu, hk⟩ := DataW.trod_struct Tryz.underlying38 h4
      match zs, hz with
      | [z0, z1], _ =>
        match us, hu with
        | [t0, t1, t2, t3], _ =>
          have g0 : DataW.trod enc Tryz.prog w base spare held m 2 [c1] = some z0 := by
            have h : DataW.trod enc Tryz.prog w base spare held m 2 (([c1, c2].drop 0).take (Tryz.prog.cellsOf 2)) = some z0 := hg 0 _ rfl
            rw [cells_int64] at h
            exact h
          have g1 : DataW.trod enc Tryz.prog w base spare held m 2 [c2] = some z1 := by
            have h : DataW.trod enc Tryz.prog w base spare held m 2 (([c1, c2].drop 1).take (Tryz.prog.cellsOf 2)) = some z1 := hg 1 _ rfl
            rw [cells_int64] at h
            exact h
          have k0 : DataW.trod enc Tryz.prog w base spare held m' 2 [c5] = some t0 := by
            have h : DataW.trod enc Tryz.prog w base spare held m' 2 (([c5, c6, c7, c8].drop 0).take (Tryz.prog.cellsOf 2)) = some t0 := hk 0 _ rfl
            rw [cells_int64] at h
            exact h
          have k1 : DataW.trod enc Tryz.prog w base spare held m' 2 [c6] = some t1 := by
            have h : DataW.trod enc Tryz.prog w base spare held m' 2 (([c5, c6, c7, c8].drop 1).take (Tryz.prog.cellsOf 2)) = some t1 := hk 1 _ rfl
            rw [cells_int64] at h
            exact h
          have k2 : DataW.trod enc Tryz.prog w base spare held m' 2 [c7] = some t2 := by
            have h : DataW.trod enc Tryz.prog w base spare held m' 2 (([c5, c6, c7, c8].drop 2).take (Tryz.prog.cellsOf 2)) = some t2 := hk 2 _ rfl
            rw [cells_int64] at h
            exact h
          have k3 : DataW.trod enc Tryz.prog w base spare held m' 2 [c8] = some t3 := by
            have h : DataW.trod enc Tryz.prog w base spare held m' 2 (([c5, c6, c7, c8].drop 3).take (Tryz.prog.cellsOf 2)) = some t3 := hk 3 _ rfl
            rw [cells_int64] at h
            exact h
          obtain ⟨a1, e1, _⟩ := DataW.trod_int Tryz.underlying2 g0
          obtain ⟨a2, e2, _⟩ := DataW.trod_int Tryz.underlying2 g1
          obtain ⟨a5, e5, _⟩ := DataW.trod_int Tryz.underlying2 k0
          obtain ⟨a6, e6, _⟩ := DataW.trod_int Tryz.underlying2 k1
          obtain ⟨a7, e7, _⟩ := DataW.trod_int Tryz.underlying2 k2
          obtain ⟨a8, e8, _⟩ := DataW.trod_int Tryz.underlying2 k3
          simp only [List.cons.injEq, and_true] at e0 e1 e2 e3 e4 e5 e6 e7 e8
          subst e0 e1 e2 e3 e4 e5 e6 e7 e8
          exact ⟨⟨s, a1, a2, n3, n4, a5, a6, a7, a8⟩, rfl, hs⟩

/-- A slice of panes that reads as data. -/
theorem open_panes {v : Value} {d : DataW H} {p : List MemPlace} (h : DataW.Trod enc Tryz.prog w base spare held 22 v d p) (hv : v.cells.toList = [v]) :
    ∃ (A : Option Addr) (n c : Nat) (ps : List Pn), v = .slice A n c ∧ ps.length = n ∧ Rd w A ps ∧ ∀ p ∈ ps, p.key.size ≤ maxLen := by
  obtain ⟨fuel, hf⟩ := h
  rw [hv] at hf
  rcases open_slice Tryz.underlying22 hf with ⟨h1, _⟩ | ⟨a, len, cap, m, n, D, Pl, h1, _, hl, _, hm, _, hi⟩
  · simp only [List.cons.injEq, and_true] at h1
    exact ⟨none, 0, 0, [], h1, rfl, fun i hi => (by cases hi), fun p hp => (by cases hp)⟩
  · simp only [List.cons.injEq, and_true] at h1
    have hlm : len ≤ m := by rw [hm]; split <;> omega
    have hall : ∀ i, i < len → ∃ q : Pn, q.key.size ≤ maxLen ∧ ∀ j u, q.cells[j]? = some u → w.cell? (a.add (i * 9 + j)) = some u := fun i hil => by
      obtain ⟨cs', hc, ht⟩ := hi i (by omega)
      obtain ⟨q, hq, hs⟩ := trod_pane ht
      refine ⟨q, hs, fun j u hu => ?_⟩
      rw [cells_Pane] at hc
      obtain ⟨_, hcl, hat⟩ := World.cells?_some hc
      have hj : j < 9 := by
        have := (List.getElem?_eq_some_iff.1 hu).1
        simpa using this
      have h2 := hat j hj
      rw [Go.Deep.add_add] at h2
      rw [h2, hq]
      exact hu
    have : Inhabited Pn := ⟨⟨ByteArray.empty, 0, 0, 0, 0, 0, 0, 0, 0⟩⟩
    obtain ⟨f, hf2⟩ := choose_lt hall
    refine ⟨some a, len, cap, (List.range len).map f, h1, by simp, fun i hil => ?_, fun p hp => ?_⟩
    · have hil2 : i < len := by simpa using hil
      have h2 := (hf2 i hil2).2
      have h3 := (hf2 0 (by omega)).2 0 (.string (f 0).key) rfl
      have h4 : w.cell? a = some (.string (f 0).key) := by
        have e : a.add (0 * 9 + 0) = a := by unfold Addr.add; rw [if_pos rfl]
        rw [← e]
        exact h3
      have hsp := plain_addr h4
      refine ⟨a.block, a.off, by rw [← hsp], fun j u hu => ?_⟩
      have h5 := h2 j u (by simpa using hu)
      rw [hsp] at h5
      have e : ∀ (b o : Nat), (⟨b, o, none⟩ : Addr).add (i * 9 + j) = ⟨b, o + i * 9 + j, none⟩ := fun b o => by
        unfold Addr.add
        split
        · rename_i h0
          rw [show o + i * 9 + j = o by omega]
        · rw [Nat.add_assoc]
      rw [e] at h5
      exact h5
    · obtain ⟨i, hil, rfl⟩ := List.mem_map.1 hp
      exact (hf2 i (List.mem_range.1 hil)).1
end
end Go.Proofs.YtciahchpdmajbaaGreatDoor
