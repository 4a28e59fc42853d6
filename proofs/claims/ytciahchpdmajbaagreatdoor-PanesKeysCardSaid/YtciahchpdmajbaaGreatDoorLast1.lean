/- Plain: the last panes; part way through Last's second loop. -/
import Derived.Test.YtciahchpdmajbaaGreatDoorMap3
import Derived.Test.YtciahchpdmajbaaGreatDoorIter2
import Derived.Test.YtciahchpdmajbaaGreatDoorRound
namespace Go.Proofs.YtciahchpdmajbaaGreatDoor
open Go.RowKit

theorem put2_ins (k : Ak) (v : Pn) : ∀ t : Tr Ak Pn, Srt acmp t.list → t.put2 k v = insA acmp k v t.list
  | .nil, _ => rfl
  | .node b k' v' l r, hs => by
    obtain ⟨hl, hr, h1, h2⟩ := Srt.split hs
    rw [Tr.put2, Tr.list]
    split
    · rename_i h
      rw [insA_left h, put2_ins k v l hl]
    · have hL : ¬ acmp k k' < 0 := by assumption
      have hall : ∀ x ∈ l.list, 0 < acmp k x.1 := fun x hx => by
        have h3 : acmp x.1 k = -1 := by
          rcases acmp_cases k k' with h | h | h
          · omega
          · rw [acmp_zero h]; exact h1 x hx
          · exact acmp_trans (h1 x hx) (acmp_flip.1 h)
        have := acmp_flip.2 h3
        omega
      rw [insA_right _ _ hall, insA, if_neg hL]
      split
      · rw [put2_ins k v r hr]
      · rfl

abbrev akOf (p : Pn) : Ak := ⟨p.key, p.s, p.e⟩
/-- The last pane of each window, in the keys' order. -/
def lst (ps : List Pn) : List (Ak × Pn) := ps.foldl (fun G p => insA acmp (akOf p) p G) []
theorem lst_snoc (ps : List Pn) (p : Pn) : lst (ps ++ [p]) = insA acmp (akOf p) p (lst ps) := by simp [lst]
theorem lst_srt_from : ∀ (ps : List Pn) (G : List (Ak × Pn)), Srt acmp G → Srt acmp (ps.foldl (fun G p => insA acmp (akOf p) p G) G)
  | [], _, h => h
  | _ :: ps, _, h => lst_srt_from ps _ (insA_srt ordA h)
theorem lst_srt (ps : List Pn) : Srt acmp (lst ps) := lst_srt_from ps [] .nil
theorem lst_len_from : ∀ (ps : List Pn) (G : List (Ak × Pn)), (ps.foldl (fun G p => insA acmp (akOf p) p G) G).length ≤ G.length + ps.length
  | [], _ => by simp
  | p :: ps, G => by
    have h1 := lst_len_from ps (insA acmp (akOf p) p G)
    have h2 := insA_len acmp (akOf p) p G
    rw [List.foldl_cons, List.length_cons]
    omega
theorem lst_length (ps : List Pn) : (lst ps).length ≤ ps.length := by have := lst_len_from ps []; simpa [lst] using this
abbrev lastOf (ps : List Pn) : List Pn := (lst ps).map Prod.snd

/-- The map holds the last panes of the list. -/
def Held2 (mb : Nat) (w : World) (t : Tr Ak Pn) (ps : List Pn) : Prop := MapIs2 w mb t ∧ In2 w t ∧ t.list = lst ps
theorem Held2.below {mb : Nat} {w w' : World} {t : Tr Ak Pn} {ps : List Pn} (h : Held2 mb w t ps) (hb : Below w.heap.size w w') : Held2 mb w' t ps :=
  ⟨(hb.block mb (Tr.lt_of_some h.1)).trans h.1, h.2.1.below hb, h.2.2⟩
theorem Held2.many {mb : Nat} {w : World} {t : Tr Ak Pn} {ps : List Pn} (h : Held2 mb w t ps) : t.many ≤ ps.length := by
  have h2 := lst_length ps
  rw [← h.2.2, t.many_list] at h2
  exact h2
theorem Held2.put {mb : Nat} {w w' : World} {t t' : Tr Ak Pn} {ps : List Pn} {p : Pn} (h : Held2 mb w t ps) (hm : MapIs2 w' mb t') (hi : In2 w' t') (hx : t'.list = t.put2 (akOf p) p) : Held2 mb w' t' (ps ++ [p]) := by
  refine ⟨hm, hi, ?_⟩
  rw [hx, put2_ins _ _ t (by rw [h.2.2]; exact lst_srt ps), h.2.2, lst_snoc]

def LastDone (ps : List Pn) (w : World) (e : Ending) (w' : World) : Prop := ∃ v, e = .returned v ∧ w'.ownsRow w.heap.size 40 9 v (lastOf ps).length (cellsOf (lastOf ps)) ∧ Below w.heap.size w w'

/-- Part way through the loop over the map. -/
def Part2 (ob B : Nat) (w0 : World) (pre : List (Ak × Pn)) (W : World) : Prop :=
  ∃ v : Value, W.heap[ob]? = some (.cells #[v] 22 (0, 0)) ∧ W.ownsRow (ob + 1) 40 9 v pre.length (cellsOf (pre.map Prod.snd)) ∧ Below B w0 W ∧ ob < W.heap.size
theorem Part2.keeps {ob B : Nat} {w0 : World} {pre : List (Ak × Pn)} {W W' : World} {p : TypeId → Prop} (h : Part2 ob B w0 pre W) (hk : KeepsTy p W W')
    (p1 : p 22) (p2 : p 40) (hb : Below B w0 W') (hs : W.heap.size ≤ W'.heap.size) : Part2 ob B w0 pre W' := by
  obtain ⟨v, h1, h2, h5, h6⟩ := h
  exact ⟨v, hk _ _ _ p1 h1, own_keepsTy h2 hk p2, hb, Nat.lt_of_lt_of_le h6 hs⟩
theorem Part2.bel {ob B : Nat} {w0 : World} {pre : List (Ak × Pn)} {W : World} (h : Part2 ob B w0 pre W) : Below B w0 W := h.choose_spec.2.2.1
theorem Part2.ownE {ob B D : Nat} {w0 : World} (hD : B ≤ D) (hw : B ≤ w0.heap.size) : OwnE 97 D (Part2 ob B w0) := fun _ _ _ _ h hg hr =>
  h.keeps (keeps_own hg fun r h => (hr r h).2) (by decide) (by decide) (h.bel.grown hg (Nat.le_trans hw h.bel.size) fun r h => Nat.le_trans hD (hr r h).1) hg.size
theorem Part2.ownN {ob B D : Nat} {w0 : World} (hD : B ≤ D) (hw : B ≤ w0.heap.size) : OwnN D (Part2 ob B w0) := fun _ _ _ _ h hg hr =>
  h.keeps (p := fun _ => True) (keeps_not hg fun r h => (hr r h).2) trivial trivial (h.bel.grown hg (Nat.le_trans hw h.bel.size) fun r h => Nat.le_trans hD (hr r h).1) hg.size
theorem Part2.alloc {ob B : Nat} {w0 : World} {pre : List (Ak × Pn)} {W : World} (h : Part2 ob B w0 pre W) (hw : B ≤ w0.heap.size) (o : Obj) : Part2 ob B w0 pre (W.alloc o) :=
  h.keeps (p := fun _ => True) (KeepsTy.below ((Below.refl _ W).alloc (Nat.le_refl _) o)) trivial trivial (h.bel.alloc (Nat.le_trans hw h.bel.size) o) (by simp)

/-- One more round of Last's second loop. -/
theorem Part2.snoc {ob B D m : Nat} {w0 : World} {pre : List (Ak × Pn)} {x : Ak × Pn} {W w2 : World} {v v2 : Value} {xs : List Value} {o : Obj}
    (g1 : W.heap[ob]? = some (.cells #[v] 22 (0, 0))) (g2 : W.ownsRow (ob + 1) 40 9 v m xs) (g5 : Below B w0 W) (g6 : ob < W.heap.size)
    (hB : B ≤ ob) (hB0 : B ≤ w0.heap.size) (hm : m = pre.length) (hxs : xs = cellsOf (pre.map Prod.snd))
    (hown2 : w2.ownsRow (ob + 1) 40 9 v2 (m + 1) (xs ++ x.2.cells)) (hgrow : (W.alloc o).grownBy w2 v.ownBlock) :
    KeepsFrom D W (w2.setCell ⟨ob, 0, none⟩ v2) ∧ KeepsTy (fun ty => ty ≠ 40 ∧ ty ≠ 22) W (w2.setCell ⟨ob, 0, none⟩ v2) ∧ Part2 ob B w0 (pre ++ [x]) (w2.setCell ⟨ob, 0, none⟩ v2) := by
  subst hm hxs
  have ha := g2.alloc o
  have hob1 : (W.alloc o).heap[ob]? = some (.cells #[v] 22 (0, 0)) := (Below.heap_alloc _ _ _ g6).trans g1
  have hob2 : w2.heap[ob]? = some (.cells #[v] 22 (0, 0)) := own_other ha hgrow hob1 (by decide)
  have hset : ∀ i, i ≠ ob → (w2.setCell ⟨ob, 0, none⟩ v2).heap[i]? = w2.heap[i]? := fun i hi => Below.heap_setCell w2 ⟨ob, 0, none⟩ v2 i hi
  have hstep : ∀ i u, i ≠ ob → (∀ r, v.ownBlock = some r → i ≠ r) → i < W.heap.size → W.heap[i]? = some u → (w2.setCell ⟨ob, 0, none⟩ v2).heap[i]? = some u := fun i u h1 h2 h3 h4 => by
    rw [hset i h1, hgrow.block i (by rw [World.size_alloc]; omega) (fun e => h2 i e.symm rfl), Below.heap_alloc _ _ _ h3]
    exact h4
  have hsz : W.heap.size ≤ (w2.setCell ⟨ob, 0, none⟩ v2).heap.size := by
    rw [World.size_setCell]
    exact Nat.le_trans (by rw [World.size_alloc]; omega) hgrow.size
  refine ⟨⟨hsz, fun i u _ hi hu => hstep i u (fun e => by
      subst e
      rw [g1] at hi
      injection hi with hi
      subst hi
      cases hu) (fun r hr e => by
      subst e
      obtain ⟨_, cs', h'⟩ := own_block g2 hr
      rw [hi] at h'
      injection h' with h'
      subst h'
      cases hu) (Tr.lt_of_some hi) hi⟩, fun i cs t ht hc => hstep i _ (fun e => by
      subst e
      rw [g1] at hc
      injection hc with hc
      injection hc with _ hc
      exact ht.2 hc.symm) (fun r hr e => by
      subst e
      obtain ⟨_, cs', h'⟩ := own_block g2 hr
      rw [hc] at h'
      injection h' with h'
      injection h' with _ h'
      exact ht.1 h') (Tr.lt_of_some hc) hc, v2, setCell_block hob2 0 v2, ?_, ?_, Nat.lt_of_lt_of_le g6 hsz⟩
  · rw [List.map_append, cellsOf_append, List.map_singleton, cellsOf_one, List.length_append]
    refine own_same hown2 fun g hg => hset g ?_
    obtain ⟨h1, _⟩ := own_block hown2 hg
    omega
  · have h2 := (g5.alloc (Nat.le_trans hB0 g5.size) o).grown hgrow (by rw [World.size_alloc]; have := g5.size; omega) (fun r hr => Nat.le_trans (Nat.le_succ_of_le hB) (own_block ha hr).1)
    exact h2.setCell (p := ⟨ob, 0, none⟩) hB v2
end Go.Proofs.YtciahchpdmajbaaGreatDoor
