/- Part way through Keys' second loop. -/
import Derived.Test.YtciahchpdmajbaaGreatDoorHeld
namespace Go.Proofs.YtciahchpdmajbaaGreatDoor
open Go.RowKit

/-- What Get answers of a map that holds the panes, grouped. -/
theorem get1_held {mb : Nat} {w w1 : World} {t : Tr ByteArray Sl} {ps : List Pn} (h : Held mb w t ps) (hb : Below w.heap.size w w1) (k : ByteArray) : ∃ A c ok, (t.getS k).getD ⟨none, 0, 0⟩ = ⟨A, (keyed k ps).length, c⟩ ∧
    w.ownsRow (mb + 1) 40 9 (.slice A (keyed k ps).length c) (keyed k ps).length (cellsOf (keyed k ps)) ∧
    Calls Tryz.prog 22 #[.pointer (some ⟨mb, 0, none⟩), .string k] w1 fun e w' => e = .returned (.tuple #[.slice A (keyed k ps).length c, .bool ok]) ∧ ∃ n, w' = w1.drewN n := by
  obtain ⟨A, c, h1, h2⟩ := h.get k
  have h' := h.below hb
  refine ⟨A, c, (t.getS k).isSome, h1, h2, (get1_any k mb t w1 h'.2.1 h'.1.cells.1 h'.1.cells.2).mono ?_⟩
  rintro e w' ⟨rfl, hd⟩
  rw [h1]
  exact ⟨rfl, hd⟩
theorem kfar {w w' : World} {row : Option Nat} (hg : w.grownBy w' row) {a : Addr} {u : Value} (hlt : a.block < w.heap.size) (hne : some a.block ≠ row) (h : w.cell? a = some u) : w'.cell? a = some u := (hg.cell_far a hlt hne).trans h

/-! What Keys tells. -/
abbrev kpEl (x : ByteArray × Sl) : List Value := [.string x.1, x.2.val]
def kcells (L : List (ByteArray × Sl)) : List Value := L.flatMap kpEl
theorem kcells_append (a b : List (ByteArray × Sl)) : kcells (a ++ b) = kcells a ++ kcells b := by simp [kcells]
theorem kcells_one (x : ByteArray × Sl) : kcells [x] = kpEl x := by simp [kcells]
def KeysDone (ps : List Pn) (w : World) (e : Ending) (w' : World) : Prop :=
  ∃ v L, e = .returned v ∧ w'.ownsRow w.heap.size 32 2 v L.length (kcells L) ∧ All2 (Ent w.heap.size w') L (grp ps) ∧ Below w.heap.size w w'
/-- Rows of one list lie apart. -/
def Sep (L : List (ByteArray × Sl)) : Prop := L.Pairwise fun x y => x.2.a ≠ y.2.a
def KeysSep (ps : List Pn) (w : World) (e : Ending) (w' : World) : Prop :=
  ∃ v L, e = .returned v ∧ w'.ownsRow w.heap.size 32 2 v L.length (kcells L) ∧ (Sep L ∧ All2 (Ent w.heap.size w') L (grp ps)) ∧ Below w.heap.size w w'
theorem all2_left {V W : Type} {R : V → W → Prop} : ∀ {L : List V} {G : List W}, All2 R L G → ∀ x ∈ L, ∃ b, R x b
  | _ :: _, _ :: _, ⟨h, t⟩, x, hx => by
    rcases List.mem_cons.1 hx with rfl | hx
    · exact ⟨_, h⟩
    · exact all2_left t x hx
  | [], _, _, _, hx => by cases hx
theorem info_KP : (Tryz.prog.info? 32).map (fun i => (i.zero, i.size, i.bytes)) = some (some (.agg #[.string ByteArray.empty, .slice none 0 0]), 2, 40) := by kernel_rfl
theorem keeps_own {e : TypeId} {W W' : World} {row : Option Nat} (hg : W.grownBy W' row) (hr : ∀ r, row = some r → ∃ cs : Array Value, W.heap[r]? = some (.cells cs e (0, 0))) : KeepsTy (fun t => t ≠ e) W W' := fun i cs t ht hc =>
  (hg.block i (Tr.lt_of_some hc) fun h => by
    obtain ⟨cs', h'⟩ := hr i h.symm
    rw [hc] at h'
    injection h' with h'
    injection h' with _ h'
    exact ht h').trans hc
theorem keeps_not {p : TypeId → Prop} {W W' : World} {row : Option Nat} (hg : W.grownBy W' row) (hr : ∀ r, row = some r → ∃ o : Obj, W.heap[r]? = some o ∧ o.isCells = false) : KeepsTy p W W' := fun i cs t _ hc =>
  (hg.block i (Tr.lt_of_some hc) fun h => by
    obtain ⟨o, h', h2⟩ := hr i h.symm
    rw [hc] at h'
    injection h' with h'
    subst h'
    cases h2).trans hc
theorem own_mono {w : World} {B B' : Nat} {e : TypeId} {size n : Nat} {v : Value} {xs : List Value} (h : w.ownsRow B e size v n xs) (hb : B' ≤ B) : w.ownsRow B' e size v n xs := by
  refine ⟨h.1, ?_⟩
  rcases h.2 with hn | ⟨g, cap, cur, rfl, hB, rest⟩
  · exact .inl hn
  · exact .inr ⟨g, cap, cur, rfl, Nat.le_trans hb hB, rest⟩
theorem Ent.mono {B B' : Nat} {w : World} {a : ByteArray × Sl} {b : ByteArray × List Pn} (h : Ent B w a b) (hb : B' ≤ B) : Ent B' w a b := ⟨h.1, h.2.1, h.2.2.1, own_mono h.2.2.2 hb⟩
theorem Ent.keeps {p : TypeId → Prop} {B : Nat} {w w' : World} {a : ByteArray × Sl} {b : ByteArray × List Pn} (h : Ent B w a b) (hk : KeepsTy p w w') (hp : p 40) : Ent B w' a b := ⟨h.1, h.2.1, h.2.2.1, own_keepsTy h.2.2.2 hk hp⟩
/-- Part way through the loop over the map. -/
def Part (ob mb B : Nat) (w0 : World) (T : List (ByteArray × Sl)) (G : List (ByteArray × List Pn)) (pre : List (ByteArray × Sl)) (W : World) : Prop :=
  ∃ (v : Value) (L : List (ByteArray × Sl)), W.heap[ob]? = some (.cells #[v] 25 (0, 0)) ∧ W.ownsRow (ob + 1) 32 2 v L.length (kcells L) ∧ (Sep L ∧ All2 (Ent (ob + 1) W) L (G.take pre.length)) ∧ All2 (Ent (mb + 1) W) T G ∧ Below B w0 W ∧ ob < W.heap.size ∧ L.length = pre.length
theorem Part.keeps {ob mb B : Nat} {w0 : World} {T : List (ByteArray × Sl)} {G : List (ByteArray × List Pn)} {pre : List (ByteArray × Sl)} {W W' : World} {p : TypeId → Prop} (h : Part ob mb B w0 T G pre W) (hk : KeepsTy p W W')
    (p1 : p 25) (p2 : p 32) (p3 : p 40) (hb : Below B w0 W') (hs : W.heap.size ≤ W'.heap.size) : Part ob mb B w0 T G pre W' := by
  obtain ⟨v, L, h1, h2, h3, h4, h5, h6, h7⟩ := h
  exact ⟨v, L, hk _ _ _ p1 h1, own_keepsTy h2 hk p2, ⟨h3.1, h3.2.imp fun _ _ _ he => he.keeps hk p3⟩, h4.imp fun _ _ _ he => he.keeps hk p3, hb, Nat.lt_of_lt_of_le h6 hs, h7⟩
theorem Part.ownE {ob mb B D : Nat} {w0 : World} {T : List (ByteArray × Sl)} {G : List (ByteArray × List Pn)} (hD : B ≤ D) (hw : B ≤ w0.heap.size) : OwnE 89 D (Part ob mb B w0 T G) := fun _ _ _ _ h hg hr =>
  h.keeps (keeps_own hg fun r h => (hr r h).2) (by decide) (by decide) (by decide) (h.choose_spec.choose_spec.2.2.2.2.1.grown hg (Nat.le_trans hw h.choose_spec.choose_spec.2.2.2.2.1.size) fun r h => Nat.le_trans hD (hr r h).1) hg.size
theorem Part.ownN {ob mb B D : Nat} {w0 : World} {T : List (ByteArray × Sl)} {G : List (ByteArray × List Pn)} (hD : B ≤ D) (hw : B ≤ w0.heap.size) : OwnN D (Part ob mb B w0 T G) := fun _ _ _ _ h hg hr =>
  h.keeps (p := fun _ => True) (keeps_not hg fun r h => (hr r h).2) trivial trivial trivial (h.choose_spec.choose_spec.2.2.2.2.1.grown hg (Nat.le_trans hw h.choose_spec.choose_spec.2.2.2.2.1.size) fun r h => Nat.le_trans hD (hr r h).1) hg.size
theorem all2_at {V W : Type} {R : V → W → Prop} : ∀ {pre : List V} {x : V} {L : List V} {G : List W}, All2 R L G → pre ++ [x] <+: L → ∃ b, G.take (pre.length + 1) = G.take pre.length ++ [b] ∧ R x b ∧ b ∈ G
  | [], _, [], _, _, ⟨_, h⟩ => by simp at h
  | _ :: _, _, [], _, _, ⟨_, h⟩ => by simp at h
  | [], x, a :: L, b :: G, ⟨h1, _⟩, ⟨q, h⟩ => by
    simp at h
    obtain ⟨rfl, rfl⟩ := h
    exact ⟨b, by simp, h1, List.mem_cons_self ..⟩
  | a' :: pre, x, a :: L, b :: G, ⟨_, h2⟩, ⟨q, h⟩ => by
    simp at h
    obtain ⟨rfl, rfl⟩ := h
    obtain ⟨c, h3, h4, h5⟩ := all2_at (pre := pre) (x := x) h2 ⟨q, by simp⟩
    exact ⟨c, by simpa using h3, h4, List.mem_cons_of_mem _ h5⟩

end Go.Proofs.YtciahchpdmajbaaGreatDoor
