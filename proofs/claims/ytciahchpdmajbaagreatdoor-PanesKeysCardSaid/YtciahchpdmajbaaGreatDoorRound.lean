/- A region that draws its order, in a round: by the walk at the wide fence. -/
import Derived.Test.YtciahchpdmajbaaGreatDoorPart
import Derived.OrdersIn
import Derived.OwnWalkIn
namespace Go.Proofs.YtciahchpdmajbaaGreatDoor
open Go.RowKit

section
variable {P : Program} {n l : Nat} {ops : Array Oper} {Q : Exit → Act → World → Prop} {md : Region.Mode}
def noDefer (ops : Array Oper) : Bool := ops.all fun o => match o.op with | .defer _ => false | _ => true
theorem noDefer_at (h : noDefer ops = true) {i : Nat} {o : Oper} (hi : ops[i]? = some o) : ∀ c, o.op ≠ .defer c := fun c hc => by
  obtain ⟨hlt, rfl⟩ := Array.getElem?_eq_some_iff.1 hi
  have h2 := (Array.all_eq_true.1 h) i hlt
  rw [hc] at h2
  cases h2
theorem opIn_round {o : Oper} {a : Act} {w : World} {K : Act → World → Prop} (hd : ∀ c, o.op ≠ .defer c) (h : o.wpIn Fence.wide n P a w K Q) : o.wpIn (Fence.wide.inRound l) n P a w K Q := by
  refine ⟨h.1, ?_⟩
  have h2 := h.2
  rw [Oper.semAt_plain Fence.wide _ _ hd] at h2
  rw [Oper.semAt_plain (Fence.wide.inRound l) _ _ hd]
  generalize (execOp a.eval o).run P w = r at h2
  cases r with
  | ok x w' => cases x <;> exact h2
  | halt x w' => cases x <;> exact h2
theorem anyIn_round (hd : noDefer ops = true) : ∀ (fuel : Nat) (listed : Array Bool) (a : Act) (w : World), wpAnyIn Fence.wide n P md ops Q fuel listed a w → wpAnyIn (Fence.wide.inRound l) n P md ops Q fuel listed a w
  | 0, _, _, _, h => h
  | fuel + 1, listed, a, w, h => by
    refine ⟨h.1, fun i hi => ?_⟩
    have h2 := h.2 i hi
    unfold wpOpIn at h2 ⊢
    cases ho : ops[i]? with
    | none => rw [ho] at h2; exact anyIn_round hd _ _ _ _ h2
    | some o =>
      rw [ho] at h2
      simp only at h2 ⊢
      split
      · rename_i hw
        rw [if_pos hw] at h2
        exact Oper.wpIn_mono (fun _ _ hk => anyIn_round hd _ _ _ _ hk) (opIn_round (noDefer_at hd ho) h2)
      · rename_i hw
        rw [if_neg hw] at h2
        exact ⟨h2.1, anyIn_round hd _ _ _ _ h2.2⟩
/-- A drawn region of a round. -/
theorem wpIn_region_round {id : Nat} {a : Act} {w : World} (hm : P.follows .mixedOrders = true) (hd : noDefer ops = true)
    (h : wpAnyIn Fence.wide n P .any ops Q ops.size (Array.replicate ops.size false) a w.drew) : (Code.region id ops true).wpIn (Fence.wide.inRound l) n P Q a w :=
  wpIn_region_any hm (anyIn_round hd _ _ _ _ h)

/-- append, at a step of a drawn region, at the wide fence. -/
theorem stepIn_append_lies {w : World} {o : Oper} {a : Act} {K : Act → World → Prop} {E : Prop} (hgd : o.guard = none) (s x : Operand) (t : TypeId)
    (ho : o.op = .call { callee := .builtin .append, args := #[s, x], argTypes := #[t, t] })
    (base : Nat) (e : TypeId) (i : TypeInfo) (z : Value) (size bytes : Nat) (ht : P.underlying t = some (.slice e)) (hi : P.info? e = some i) (hz : i.zero = some z)
    (hsize : i.size = size) (hby : i.bytes = bytes) (hzs : z.cells.size = size) (hsz : 0 < size)
    (v : Value) (k : Nat) (xs : List Value) (hs : a.eval s = v) (hown : w.ownsRow base e size v k xs)
    (ad : Addr) (m c : Nat) (news : List Value) (hx : a.eval x = .slice (some ad) m c) (hl : news.length = m * size) (hnews : ∀ j u, news[j]? = some u → w.cell? (ad.add j) = some u) (h1 : ∀ u ∈ news, u.oneCell' = true)
    (hm : 0 < m) (h63 : k + m ≤ maxLen) (hbytes : (k + m) * bytes ≤ 140737488355328) (hbase : base ≤ w.heap.size) (H : Nat) (hH : w.heap.size = H)
    (h : ∀ g cap w', w'.ownsRow base e size (.slice (some ⟨g, 0, none⟩) (k + m) cap) (k + m) (xs ++ news) → w.grownBy w' v.ownBlock → (v.ownBlock = some g ∨ g = H) → g < w'.heap.size → K (a.put o.dst (.slice (some ⟨g, 0, none⟩) (k + m) cap)) w') :
    if Region.wanted o (yielded ops a.tmps) = true then Oper.wpIn Fence.wide n P o a w K Q else E := by
  have hw : Region.wanted o (yielded ops a.tmps) = true := by simp [Region.wanted, hgd]
  rw [if_pos hw]
  obtain ⟨g, cap, w', hr, h2, h3, h4, h5⟩ := run_append_lies (P := P) w t o.type base e i z size bytes ht hi hz hsize hby hzs hsz v k xs hown ad m c news hl hnews h1 hm h63 hbytes hbase H hH
  unfold Oper.wpIn
  refine ⟨by simp [Oper.about, ho, resolve, Target.leads, Sem.run_pure], ?_⟩
  rw [Oper.semAt_plain Fence.wide _ _ (by rw [ho]; intro c hc'; cases hc')]
  simp only [execOp, ho, resolve, invoke, builtin, Sem.run_bind, Sem.run_pure, Result.andThen_ok, List.map_toArray, List.map_cons, List.map_nil, hs, hx, hr]
  exact h g cap w' h2 h3 h4 h5
end

/-- One more round of Keys' second loop. -/
theorem Part.snoc {ob mb B D m : Nat} {w0 : World} {T : List (ByteArray × Sl)} {G : List (ByteArray × List Pn)} {pre : List (ByteArray × Sl)} {x : ByteArray × Sl} {key : ByteArray} {qs : List Pn} {W w1 w2 : World} {v v2 : Value} {A2 : Option Addr} {c2 : Nat} {L : List (ByteArray × Sl)} {o : Obj}
    (g1 : W.heap[ob]? = some (.cells #[v] 25 (0, 0))) (g2 : W.ownsRow (ob + 1) 32 2 v L.length (kcells L)) (g3 : Sep L ∧ All2 (Ent (ob + 1) W) L (G.take pre.length)) (g4 : All2 (Ent (mb + 1) W) T G) (g5 : Below B w0 W) (g6 : ob < W.heap.size) (g7 : L.length = pre.length)
    (hB : B ≤ ob) (hB0 : B ≤ w0.heap.size) (hb : Below W.heap.size W w1) (hr1 : w1.ownsRow W.heap.size 40 9 (.slice A2 m c2) m (cellsOf qs)) (hm : m = qs.length) (hne : qs ≠ [])
    (hown2 : w2.ownsRow (ob + 1) 32 2 v2 (L.length + 1) (kcells L ++ [.string key, .slice A2 m c2])) (hgrow : (w1.alloc o).grownBy w2 v.ownBlock) (htake : G.take (pre.length + 1) = G.take pre.length ++ [(key, qs)]) :
    KeepsFrom D W (w2.setCell ⟨ob, 0, none⟩ v2) ∧ KeepsTy (fun ty => ty ≠ 32 ∧ ty ≠ 25) W (w2.setCell ⟨ob, 0, none⟩ v2) ∧ Part ob mb B w0 T G (pre ++ [x]) (w2.setCell ⟨ob, 0, none⟩ v2) := by
  have ha : (w1.alloc o).ownsRow (ob + 1) 32 2 v L.length (kcells L) := (own_keepsTy (p := fun _ => True) g2 (KeepsTy.below hb) trivial).alloc o
  have hob1 : (w1.alloc o).heap[ob]? = some (.cells #[v] 25 (0, 0)) := (Below.heap_alloc _ _ _ (Nat.lt_of_lt_of_le g6 hb.size)).trans ((hb.block ob g6).trans g1)
  have hob2 : w2.heap[ob]? = some (.cells #[v] 25 (0, 0)) := own_other ha hgrow hob1 (by decide)
  have hset : ∀ i, i ≠ ob → (w2.setCell ⟨ob, 0, none⟩ v2).heap[i]? = w2.heap[i]? := fun i hi => Below.heap_setCell w2 ⟨ob, 0, none⟩ v2 i hi
  have hstep : ∀ i u, i ≠ ob → (∀ r, v.ownBlock = some r → i ≠ r) → i < W.heap.size → W.heap[i]? = some u → (w2.setCell ⟨ob, 0, none⟩ v2).heap[i]? = some u := fun i u h1 h2 h3 h4 => by
    rw [hset i h1, hgrow.block i (by rw [World.size_alloc]; have := hb.size; omega) (fun e => h2 i e.symm rfl), Below.heap_alloc _ _ _ (Nat.lt_of_lt_of_le h3 hb.size), hb.block i h3]
    exact h4
  have hkt : KeepsTy (fun ty => ty ≠ 32 ∧ ty ≠ 25) W (w2.setCell ⟨ob, 0, none⟩ v2) := fun i cs t ht hc => hstep i _ (fun e => by
      subst e
      rw [g1] at hc
      injection hc with hc
      injection hc with _ hc
      exact ht.2 hc.symm) (fun r hr e => by
      subst e
      obtain ⟨_, cs', h'⟩ := own_block g2 hr
      rw [hc] at h'
      injection h' with h'
      injection h' with _ h'
      exact ht.1 h') (Tr.lt_of_some hc) hc
  have hk2 : KeepsTy (fun ty => ty ≠ 32 ∧ ty ≠ 25) w1 (w2.setCell ⟨ob, 0, none⟩ v2) := fun i cs t ht hc => by
    have hc' : (w1.alloc o).heap[i]? = some (.cells cs t (0, 0)) := (Below.heap_alloc _ _ _ (Tr.lt_of_some hc)).trans hc
    rw [hset i (fun e => by
      subst e
      rw [hob1] at hc'
      injection hc' with hc'
      injection hc' with _ hc'
      exact ht.2 hc'.symm)]
    exact own_other ha hgrow hc' ht.1
  have hsz : W.heap.size ≤ (w2.setCell ⟨ob, 0, none⟩ v2).heap.size := by
    rw [World.size_setCell]
    exact Nat.le_trans (Nat.le_trans hb.size (by rw [World.size_alloc]; omega)) hgrow.size
  refine ⟨⟨hsz, fun i u _ hi hu => hstep i u (fun e => by
      subst e
      rw [g1] at hi
      injection hi with hi
      subst hi
      cases hu) (fun r hr e => by
      subst e
      obtain ⟨_, cs', h'⟩ := own_block g2 hr
      rw [hi] at h'
      injection h' with h'
      subst h'
      cases hu) (Tr.lt_of_some hi) hi⟩, hkt, v2, L ++ [(key, ⟨A2, m, c2⟩)], ?_, ?_, ?_, ?_, ?_, Nat.lt_of_lt_of_le g6 hsz, by simp [g7]⟩
  · exact setCell_block hob2 0 v2
  · rw [kcells_append, kcells_one, List.length_append]
    refine own_same hown2 fun g hg => hset g ?_
    obtain ⟨h1, _⟩ := own_block hown2 hg
    omega
  · rw [List.length_append, List.length_singleton, htake]
    refine ⟨?_, All2.snoc (g3.2.imp fun _ _ _ h => h.keeps hkt ⟨by decide, by decide⟩) ⟨rfl, hm, hne, ?_⟩⟩
    · refine List.pairwise_append.2 ⟨g3.1, List.pairwise_singleton _ _, fun x hx y hy => ?_⟩
      obtain rfl := List.mem_singleton.1 hy
      obtain ⟨b, hb9⟩ := all2_left g3.2 x hx
      obtain ⟨g, h1, _, h2⟩ := hb9.own
      rw [h1]
      intro h3
      have h4 := (own_block (r := g) hr1 (by rw [show A2 = _ from h3.symm]; rfl)).1
      omega
    subst hm
    exact own_mono (own_keepsTy hr1 hk2 ⟨by decide, by decide⟩) (by omega)
  · exact g4.imp fun _ _ _ h => h.keeps hkt ⟨by decide, by decide⟩
  · have h1 : Below B w0 w1 := g5.trans (hb.mono (by have := g5.size; omega))
    have h2 := (h1.alloc (Nat.le_trans hB0 h1.size) o).grown hgrow (by rw [World.size_alloc]; have := h1.size; omega) (fun r hr => Nat.le_trans (Nat.le_succ_of_le hB) (own_block ha hr).1)
    exact h2.setCell (p := ⟨ob, 0, none⟩) hB v2
end Go.Proofs.YtciahchpdmajbaaGreatDoor
