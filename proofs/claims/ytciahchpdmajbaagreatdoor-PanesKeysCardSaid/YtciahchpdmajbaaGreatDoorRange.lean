/- A range over a function whose iterator keeps a stack of its own in memory: a law for loops that go over everything: the iterator may turn, beside new blocks, blocks of cells of one element type e that it laid itself. -/
import Derived.Test.YtciahchpdmajbaaGreatDoorMap1
import Derived.RangeFuncNested
import Derived.RangeFuncBound
import Derived.RangeFuncCalls
import Derived.RangeFuncLeaves
import Derived.RangeFuncKeeps
namespace Go.Proofs.YtciahchpdmajbaaGreatDoor
open Go.RowKit

/-- What the iterator may turn: a block from B on, of cells of element type e, or of no cells. -/
def OwnE (e : TypeId) (B : Nat) {β : Type} (J : β → World → Prop) : Prop :=
  ∀ s (W W' : World) row, J s W → W.grownBy W' row → (∀ r, row = some r → B ≤ r ∧ ∃ cs : Array Value, W.heap[r]? = some (.cells cs e (0, 0))) → J s W'
/-- What bookkeeping may turn: a block from B on that is no cells. -/
def OwnN (B : Nat) {β : Type} (J : β → World → Prop) : Prop :=
  ∀ s (W W' : World) row, J s W → W.grownBy W' row → (∀ r, row = some r → B ≤ r ∧ ∃ o : Obj, W.heap[r]? = some o ∧ o.isCells = false) → J s W'

/-- The iterator's contract: it hands over T's elements, one by one. -/
def SeqAll {α : Type} (n : Nat) (P : Program) (g : Nat) (lb : Array Value) (encs : α → Array Value) (e : TypeId) (Kp : World → World → Prop) (T : List α) (w : World) : Prop :=
  ∀ (l : Nat) (J : List α → World → Prop) (W : World), Below w.heap.size w W → OwnE e W.heap.size J →
    (∀ pre x W1, J pre W1 → pre ++ [x] <+: T → YieldAt Fence.wide (n - 1) P l (encs x) W1 fun e W' => e = .returned (.bool true) ∧ J (pre ++ [x]) W' ∧ Kp W1 W') →
    J [] W →
    CallsIn Fence.wide n P g (#[.func (.yield l) #[] #[]] ++ lb) W fun e W' => (∃ v, e = .returned v) ∧ J T W'

theorem wpIn_range_all {α : Type} {n : Nat} {P : Program} {g : Operand} {ps : Array Tmp} {assign body : Code} {Q : Exit → Act → World → Prop} {a : Act} {w : World}
    {gf : Nat} {lb : Array Value} (hg : a.eval g = .func (.func gf) #[] lb) (eg : ∀ args w, (callFunc gf args).run P w = .ok (.enter gf args) w)
    {encs : α → Array Value} {e : TypeId} {Kp : World → World → Prop} {T : List α} {w0 : World} (hseq : SeqAll (n - 1) P gf lb encs e Kp T w0)
    (hKt : ∀ {A B C : World}, Kp A B → Kp B C → Kp A C) (hKb : ∀ (W : World) (l : Nat) (o o' : Obj), W.heap[l]? = some o → o.isCells = false → Kp W (W.putObj l o'))
    (hb0 : Below w0.heap.size w0 w) (hps : ∀ x, (encs x).size = ps.size)
    (I : List α → World → Prop) (hIE : OwnE e w.heap.size I) (hIN : OwnN w.heap.size I) (h0 : I [] w)
    (Ax : α → Act → World → Prop) (hAx : ∀ x a', OwnN w.heap.size (fun (_ : Unit) W => Ax x a' W))
    (hassign : ∀ (l : Nat) (pre : List α) (x : α) (W : World) (K : Act → World → Prop), I pre W → (∀ a' W', KeepsFrom w.heap.size W W' → Kp W W' → I pre W' → Ax x a' W' → K a' W') →
      assign.wpIn (Fence.wide.inRound l) (n - 1 - 1) P (Exit.then K (fun _ _ _ => False)) { tmps := (ps.zip (encs x)).foldl (fun t (p, v) => t.setIfInBounds p v) a.tmps, defers := [] } W)
    (hbody : ∀ (l : Nat) (pre : List α) (x : α) (a' : Act) (W : World), I pre W → Ax x a' W → pre ++ [x] <+: T →
      body.wpIn (Fence.wide.inRound l) (n - 1 - 1) P (fun e' _ W' => e' = .normal ∧ KeepsFrom w.heap.size W W' ∧ Kp W W' ∧ I (pre ++ [x]) W') a' W)
    (hdone : ∀ (D : Nat) (W : World), w.heap.size ≤ D → I T W → W.heap[D]? = some (.deferred (some [])) → Q .normal { a with defers := { target := .collected D, args := #[] } :: a.defers } W) :
    (Code.rangeFunc g ps assign body).wpIn Fence.wide n P Q a w := by
  refine wpIn_rangeFunc fun fn hfn => ?_
  have hro : Fence.wide.round = none := rfl
  rw [hro]
  -- the loop's record, in each of its states
  let rec_ : LoopState → Option Code → Loop := fun st pe => { state := st, pending := pe, fn, tmps := a.tmps, params := ps, assign, body, defers := w.heap.size }
  let W1 := (w.alloc (.deferred (some []))).alloc (.loop (rec_ .ready none))
  have eW1 : W1 = (w.alloc (.deferred (some []))).alloc (.loop (rec_ .ready none)) := rfl
  have hL1 : W1.heap[w.heap.size + 1]? = some (.loop (rec_ .ready none)) := by
    have h := World.alloc_heap_new (w.alloc (.deferred (some []))) (.loop (rec_ .ready none))
    rwa [World.size_alloc] at h
  have hD1 : W1.heap[w.heap.size]? = some (.deferred (some [])) := (Below.heap_alloc _ _ _ (by simp)).trans (World.alloc_heap_new w _)
  have hB1 : Below w.heap.size w W1 := ((Below.refl _ w).alloc (Nat.le_refl _) _).alloc (by simp) _
  have hI1 : I [] W1 := hIN [] _ _ none (hIN [] _ _ none h0 (World.grownBy_alloc w _ none) (fun _ h => by cases h)) (World.grownBy_alloc _ _ none) (fun _ h => by cases h)
  have hs1 : w.heap.size + 1 < W1.heap.size := Tr.lt_of_some hL1
  refine ⟨w.heap.size + 1, [{ target := .collected w.heap.size, args := #[] }], W1, { target := .fn (.func gf) lb, args := #[.func (.yield (w.heap.size + 1)) #[] #[]] }, W1, gf,
    #[.func (.yield (w.heap.size + 1)) #[] #[]] ++ lb, W1, run_enterLoop_outer _ _ _ _ _, ?_, fun _ _ => trivial, ?_, (fun h => by cases h), ?_⟩
  · simp only [resolve, hg]
    simp [go_sem]
  · simp [invoke, go_sem, eg]
  · let J : List α → World → Prop := fun pre W => I pre W ∧ W.heap[w.heap.size + 1]? = some (.loop (rec_ .ready none)) ∧ W.heap[w.heap.size]? = some (.deferred (some []))
    have hJ : OwnE e W1.heap.size J := by
      rintro s A B row ⟨hi, hl, hd⟩ hgr hr
      refine ⟨hIE s A B row hi hgr fun r h => ⟨by have := (hr r h).1; omega, (hr r h).2⟩, ?_, ?_⟩
      · exact (hgr.block _ (Tr.lt_of_some hl) fun h => by have := (hr _ h.symm).1; omega).trans hl
      · exact (hgr.block _ (Tr.lt_of_some hd) fun h => by have := (hr _ h.symm).1; omega).trans hd
    refine (hseq (w.heap.size + 1) J W1 (hb0.trans (hB1.mono hb0.size)) hJ ?_ ⟨hI1, hL1, hD1⟩).mono ?_
    · rintro pre x W ⟨hi, hl, hd⟩ hx
      have hy := run_yield (P := P) (args := encs x) hl (hps x)
      refine ⟨fn, _, assign, body, hy, roundIn_of_wpIn hfn (hassign _ pre x W _ hi ?_)⟩
      intro a' Wa hkf hkp hia hax
      have hl' := hkf.same _ _ (by omega) hl rfl
      have hd' := hkf.same _ _ (Nat.le_refl _) hd rfl
      have hlt := Tr.lt_of_some hl'
      refine ⟨_, run_beginRound hl' rfl, ?_⟩
      have gw := grownBy_putObj' Wa (w.heap.size + 1) (.loop { rec_ .ready none with state := .busy })
      have gr : ∀ r, some (w.heap.size + 1) = some r → w.heap.size ≤ r ∧ ∃ o : Obj, Wa.heap[r]? = some o ∧ o.isCells = false := fun r h => by cases h; exact ⟨by omega, _, hl', rfl⟩
      refine wpIn_mono (hbody _ pre x a' _ (hIN _ _ _ _ hia gw gr) (hAx x a' () _ _ _ hax gw gr) hx) ?_
      rintro e' a3 W3 ⟨rfl, hk3, hkp3, hi3⟩
      have hl2 : (Wa.putObj (w.heap.size + 1) (.loop { rec_ .ready none with state := .busy })).heap[w.heap.size + 1]? = some (.loop { rec_ .ready none with state := .busy }) := World.putObj_heap_same hlt
      have hd2 : (Wa.putObj (w.heap.size + 1) (.loop { rec_ .ready none with state := .busy })).heap[w.heap.size]? = some (.deferred (some [])) := (World.putObj_heap_other (by omega)).trans hd'
      have hl3 := hk3.same _ _ (by omega) hl2 rfl
      have hd3 := hk3.same _ _ (Nat.le_refl _) hd2 rfl
      refine ⟨_, _, run_endRound (P := P) none hl3, rfl, ⟨?_, ?_, ?_⟩, ?_⟩
      · exact hIN _ _ _ _ hi3 (grownBy_putObj' W3 (w.heap.size + 1) _) fun r h => by cases h; exact ⟨by omega, _, hl3, rfl⟩
      · exact World.putObj_heap_same (Tr.lt_of_some hl3)
      · exact (World.putObj_heap_other (by omega)).trans hd3
      · exact hKt hkp (hKt (hKb _ _ _ _ hl' rfl) (hKt hkp3 (hKb _ _ _ _ hl3 rfl)))
    · rintro e' W2 ⟨⟨v, rfl⟩, hi, hl, hd⟩
      refine ⟨none, _, run_endLoop (P := P) hl (by simp [rec_]), ?_⟩
      exact hdone _ _ (Nat.le_refl _) (hIN _ _ _ _ hi (grownBy_putObj' W2 (w.heap.size + 1) _) fun r h => by cases h; exact ⟨by omega, _, hl, rfl⟩) ((World.putObj_heap_other (by omega)).trans hd)
end Go.Proofs.YtciahchpdmajbaaGreatDoor
