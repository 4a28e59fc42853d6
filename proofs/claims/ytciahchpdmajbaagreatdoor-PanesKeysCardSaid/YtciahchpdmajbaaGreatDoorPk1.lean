/- The law PanesKeys: the walk, up to where what was told is written over. -/
import Derived.Test.YtciahchpdmajbaaGreatDoorGrp
import Derived.Test.YtciahchpdmajbaaGreatDoorRLast
import Derived.Test.YtciahchpdmajbaaGreatDoorKn5
import Derived.Test.YtciahchpdmajbaaGreatDoorLast
namespace Go.Proofs.YtciahchpdmajbaaGreatDoor
open Go.RowKit

def tally (K : List ByteArray) (ps : List Pn) : Nat := (K.map fun k => (keyed k ps).length).sum
theorem keyed_mem {k : ByteArray} {ps : List Pn} {p : Pn} : p ∈ keyed k ps ↔ p ∈ ps ∧ p.key = k := by
  rw [keyed, List.mem_filter]
  constructor
  · rintro ⟨h1, h2⟩
    exact ⟨h1, toList_inj (by simpa using h2)⟩
  · rintro ⟨h1, rfl⟩
    exact ⟨h1, by simp⟩
theorem keyed_rest {k j : ByteArray} (h : j ≠ k) (ps : List Pn) : keyed j (ps.filter fun p => !(p.key.toList == k.toList)) = keyed j ps := by
  rw [keyed, List.filter_filter]
  refine List.filter_congr fun p _ => ?_
  by_cases hp : p.key.toList = j.toList
  · have : ¬ p.key.toList = k.toList := fun e => h (toList_inj (hp.symm.trans e))
    simp [hp, show ¬ j.toList = k.toList from fun e => h (toList_inj e)]
  · simp [hp]
theorem keyed_split (k : ByteArray) : ∀ ps : List Pn, (keyed k ps).length + (ps.filter fun p => !(p.key.toList == k.toList)).length = ps.length
  | [] => rfl
  | p :: ps => by
    have ih := keyed_split k ps
    by_cases h : p.key.toList = k.toList
    · simp [keyed, h] at ih ⊢
      omega
    · simp [keyed, h] at ih ⊢
      omega
theorem tally_all : ∀ (K : List ByteArray) (ps : List Pn), K.Nodup → (∀ p ∈ ps, p.key ∈ K) → tally K ps = ps.length
  | [], ps, _, h => by
    cases ps with
    | nil => rfl
    | cons p ps => exact absurd (h p (List.mem_cons_self ..)) (by simp)
  | k :: K, ps, hn, h => by
    have hn' := List.nodup_cons.1 hn
    have ih := tally_all K (ps.filter fun p => !(p.key.toList == k.toList)) hn'.2 fun p hp => by
      rw [List.mem_filter] at hp
      rcases List.mem_cons.1 (h p hp.1) with e | e
      · have := hp.2
        rw [e] at this
        simp at this
      · exact e
    have e1 : tally K (ps.filter fun p => !(p.key.toList == k.toList)) = tally K ps := by
      unfold tally
      congr 1
      refine List.map_congr_left fun j hj => ?_
      rw [keyed_rest (fun e => hn'.1 (by rw [← e]; exact hj))]
    have e2 := keyed_split k ps
    show (keyed k ps).length + tally K ps = ps.length
    omega
theorem sum_le_eq : ∀ (K : List ByteArray) (f g : ByteArray → Nat), (∀ k ∈ K, f k ≤ g k) → (K.map f).sum = (K.map g).sum → ∀ k ∈ K, f k = g k
  | [], _, _, _, _, _, hk => by cases hk
  | j :: K, f, g, h, hs, k, hk => by
    have h1 := h j (List.mem_cons_self ..)
    have h2 : (K.map f).sum ≤ (K.map g).sum := by
      have : ∀ (L : List ByteArray), (∀ k ∈ L, f k ≤ g k) → (L.map f).sum ≤ (L.map g).sum := by
        intro L
        induction L with
        | nil => intro _; simp
        | cons a L ih =>
          intro h
          have h3 := h a (List.mem_cons_self ..)
          have h4 := ih fun k hk => h k (List.mem_cons_of_mem _ hk)
          simp only [List.map_cons, List.sum_cons]
          omega
      exact this K fun k hk => h k (List.mem_cons_of_mem _ hk)
    simp only [List.map_cons, List.sum_cons] at hs
    rcases List.mem_cons.1 hk with rfl | hk
    · omega
    · exact sum_le_eq K f g (fun k hk => h k (List.mem_cons_of_mem _ hk)) (by omega) k hk
theorem keys_list (ps qs : List Pn) : ∃ K : List ByteArray, K.Nodup ∧ (∀ p ∈ ps, p.key ∈ K) ∧ (∀ p ∈ qs, p.key ∈ K) := by
  have h : ∀ L : List ByteArray, ∃ K : List ByteArray, K.Nodup ∧ ∀ k ∈ L, k ∈ K := by
    intro L
    induction L with
    | nil => exact ⟨[], List.nodup_nil, fun _ h => by cases h⟩
    | cons a L ih =>
      obtain ⟨K, h1, h2⟩ := ih
      by_cases h : a ∈ K
      · exact ⟨K, h1, fun k hk => by
          rcases List.mem_cons.1 hk with rfl | hk
          · exact h
          · exact h2 k hk⟩
      · exact ⟨a :: K, List.nodup_cons.2 ⟨h, h1⟩, fun k hk => by
          rcases List.mem_cons.1 hk with rfl | hk
          · exact List.mem_cons_self ..
          · exact List.mem_cons_of_mem _ (h2 k hk)⟩
  obtain ⟨K, h1, h2⟩ := h ((ps ++ qs).map (·.key))
  exact ⟨K, h1, fun p hp => h2 _ (List.mem_map_of_mem (List.mem_append_left _ hp)), fun p hp => h2 _ (List.mem_map_of_mem (List.mem_append_right _ hp))⟩
/-- The law of Alike. -/
theorem both_ways (la lb : List Pn) : (la.length = lb.length ∧ ∀ k, keyed k la <+: keyed k lb) ↔ (∀ k, keyed k la <+: keyed k lb) ∧ (∀ k, keyed k lb <+: keyed k la) := by
  obtain ⟨K, hn, h1, h2⟩ := keys_list la lb
  have ta := tally_all K la hn h1
  have tb := tally_all K lb hn h2
  constructor
  · rintro ⟨hl, hp⟩
    refine ⟨hp, fun k => ?_⟩
    by_cases hk : k ∈ K
    · have h3 := sum_le_eq K (fun k => (keyed k la).length) (fun k => (keyed k lb).length) (fun k _ => (hp k).length_le) (by unfold tally at ta tb; omega) k hk
      rw [(hp k).eq_of_length h3]
      exact List.prefix_refl _
    · have h3 : keyed k lb = [] := by
        rw [List.eq_nil_iff_forall_not_mem]
        intro p hpm
        obtain ⟨h4, rfl⟩ := keyed_mem.1 hpm
        exact hk (h2 p h4)
      rw [h3]
      exact List.nil_prefix
  · rintro ⟨hp, hq⟩
    refine ⟨?_, hp⟩
    have h3 : ∀ k, (keyed k la).length = (keyed k lb).length := fun k => Nat.le_antisymm (hp k).length_le (hq k).length_le
    rw [← ta, ← tb]
    unfold tally
    congr 1
    exact List.map_congr_left fun k _ => h3 k
end Go.Proofs.YtciahchpdmajbaaGreatDoor

namespace Go.Proofs.YtciahchpdmajbaaGreatDoor
open Go.RowKit
attribute [local go_sem ↓] Go.wp_at_zero Go.wp_at_succ

/-- A later world: all that lay there is as it was. -/
abbrev Fut (a b : World) : Prop := Below a.heap.size a b
theorem Fut.refl (a : World) : Fut a a := Below.refl _ _
theorem Fut.tr {a b c : World} (h : Fut a b) (k : Fut b c) : Fut a c := h.trans (k.mono h.size)
theorem fut_drew {a b : World} (h : ∃ k, b = a.drewN k) : Fut a b := by
  obtain ⟨k, rfl⟩ := h
  exact below_drewN (Below.refl _ _) k
def RowDone (xs : List Pn) (w : World) (e : Ending) (w' : World) : Prop := ∃ A c, e = .returned (.slice A xs.length c) ∧ w'.ownsRow w.heap.size 40 9 (.slice A xs.length c) xs.length (cellsOf xs) ∧ Below w.heap.size w w'
theorem row_done {xs : List Pn} {w w' : World} {e : Ending} (h : OfDone xs w e w') : RowDone xs w e w' := by
  obtain ⟨v, rfl, h2, h3⟩ := h
  obtain ⟨A, c, rfl⟩ := own_shape h2
  exact ⟨A, c, rfl, h2, h3⟩
def KeysM (s : Bool) (M : Nat) (ps : List Pn) (w : World) (e : Ending) (w' : World) : Prop :=
  ∃ A c L, e = .returned (.slice A M c) ∧ L.length = M ∧ w'.ownsRow w.heap.size 32 2 (.slice A M c) M (kcells L) ∧ ((s = true → Sep L) ∧ All2 (Ent w.heap.size w') L (grp ps)) ∧ Below w.heap.size w w'
theorem keysM_sep {M : Nat} {ps : List Pn} (hM : M = (grp ps).length) {w w' : World} {e : Ending} (h : KeysSep ps w e w') : KeysM true M ps w e w' := by
  obtain ⟨v, L, rfl, h2, h3, h4⟩ := h
  have hl : L.length = M := by rw [hM]; exact h3.2.length
  rw [hl] at h2
  obtain ⟨A, c, rfl⟩ := own_shape h2
  exact ⟨A, c, L, rfl, hl, h2, ⟨fun _ => h3.1, h3.2⟩, h4⟩
theorem keysM_done {M : Nat} {ps : List Pn} (hM : M = (grp ps).length) {w w' : World} {e : Ending} (h : KeysDone ps w e w') : KeysM false M ps w e w' := by
  obtain ⟨v, L, rfl, h2, h3, h4⟩ := h
  have hl : L.length = M := by rw [hM]; exact h3.length
  rw [hl] at h2
  obtain ⟨A, c, rfl⟩ := own_shape h2
  exact ⟨A, c, L, rfl, hl, h2, ⟨fun h => (by cases h), h3⟩, h4⟩
/-- Blocks but for some are as they were. -/
structure Kept (p : Nat → Prop) (a b : World) : Prop where
  size : a.heap.size ≤ b.heap.size
  block : ∀ i, i < a.heap.size → ¬ p i → b.heap[i]? = a.heap[i]?
theorem Kept.refl (p : Nat → Prop) (a : World) : Kept p a a := ⟨Nat.le_refl _, fun _ _ _ => rfl⟩
theorem Kept.grown {p : Nat → Prop} {a b c : World} {r : Option Nat} (h : Kept p a b) (k : b.grownBy c r) (hr : ∀ i, r = some i → p i ∨ a.heap.size ≤ i) : Kept p a c :=
  ⟨Nat.le_trans h.size k.size, fun i hi hp => (k.block i (Nat.lt_of_lt_of_le hi h.size) (fun e => by
    rcases hr i e.symm with h1 | h1
    · exact hp h1
    · omega)).trans (h.block i hi hp)⟩
theorem Kept.own {p : Nat → Prop} {a b : World} {B : Nat} {e : TypeId} {size n : Nat} {v : Value} {xs : List Value} (h : Kept p a b) (ho : a.ownsRow B e size v n xs) (hv : ∀ r, v.ownBlock = some r → ¬ p r) : b.ownsRow B e size v n xs :=
  own_same ho fun g hg => h.block g (Tr.lt_of_some (own_block ho hg).2.choose_spec) (hv g hg)
/-- A row's block lies between. -/
def Btw (lo hi : Nat) (v : Value) : Prop := ∀ r, v.ownBlock = some r → lo ≤ r ∧ r < hi
theorem btw_own {w : World} {B : Nat} {e : TypeId} {size n : Nat} {v : Value} {xs : List Value} (h : w.ownsRow B e size v n xs) : Btw B w.heap.size v := fun _ hr => ⟨(own_block h hr).1, Tr.lt_of_some (own_block h hr).2.choose_spec⟩
theorem own_ne {w : World} {B B' : Nat} {e e' : TypeId} {size n size' n' : Nat} {v v' : Value} {xs xs' : List Value} (h : w.ownsRow B e size v n xs) (h' : w.ownsRow B' e' size' v' n' xs') (hne : e ≠ e') {r : Nat} (hr : v.ownBlock = some r) : v'.ownBlock ≠ some r := fun h9 => by
  obtain ⟨_, cs, h1⟩ := own_block h hr
  obtain ⟨_, cs', h2⟩ := own_block h' h9
  rw [h1] at h2
  injection h2 with h2
  injection h2 with _ h2
  exact hne h2
theorem own_grown {w w' : World} {B : Nat} {e : TypeId} {size n : Nat} {v : Value} {xs : List Value} {r : Option Nat} (h : w.ownsRow B e size v n xs) (hg : w.grownBy w' r) (hne : ∀ i, v.ownBlock = some i → r ≠ some i) : w'.ownsRow B e size v n xs :=
  own_same h fun g hg' => hg.block g (Tr.lt_of_some (own_block h hg').2.choose_spec) fun e => hne g hg' e.symm
theorem own_addr {w : World} {B : Nat} {e : TypeId} {size n m c : Nat} {A : Option Addr} {xs : List Value} (h : w.ownsRow B e size (.slice A m c) n xs) {i : Nat} (hi : (Value.slice A m c).ownBlock = some i) : A = some ⟨i, 0, none⟩ := by
  rcases own_two h with ⟨hv, _⟩ | ⟨g, cap, hv, _⟩
  · rw [hv] at hi
    cases hi
  · injection hv with h1
    subst h1
    injection hi with hi
    subst hi
    rfl
theorem Kept.mono {p q : Nat → Prop} {a b : World} (h : Kept p a b) (hpq : ∀ i, p i → q i) : Kept q a b := ⟨h.size, fun i hi hq => h.block i hi fun hp => hq (hpq i hp)⟩
theorem late {p : Nat → Prop} {a b c : World} {B : Nat} {e : TypeId} {size n : Nat} {v : Value} {xs : List Value} (h : a.ownsRow B e size v n xs) (f : Fut a b) (k : Kept p b c) (hp : ∀ r, B ≤ r → r < a.heap.size → ¬ p r) : c.ownsRow B e size v n xs :=
  own_same h fun g hg => (k.block g (Nat.lt_of_lt_of_le (btw_own h g hg).2 f.size) (hp g (btw_own h g hg).1 (btw_own h g hg).2)).trans (f.block g (btw_own h g hg).2)
theorem lateEnt {p : Nat → Prop} {a b c : World} {B : Nat} {L : List (ByteArray × Sl)} {G : List (ByteArray × List Pn)} (h : All2 (Ent B a) L G) (f : Fut a b) (k : Kept p b c) (hp : ∀ r, B ≤ r → r < a.heap.size → ¬ p r) : All2 (Ent B c) L G :=
  h.imp fun _ _ _ he => he.same fun g hg => by
    obtain ⟨g', hg', hB, hlt⟩ := he.own
    rw [hg] at hg'
    injection hg' with hg'
    injection hg' with hg'
    subst hg'
    exact (k.block g (Nat.lt_of_lt_of_le hlt f.size) (hp g hB hlt)).trans (f.block g hlt)
theorem bool_eq {a b : Bool} (h : a = true ↔ b = true) : a = b := by cases a <;> cases b <;> simp at h ⊢
theorem bool_of (P : Prop) : ∃ t : Bool, t = true ↔ P := by
  by_cases h : P
  · exact ⟨true, fun _ => h, fun _ => rfl⟩
  · exact ⟨false, fun h' => (by cases h'), fun h' => absurd h' h⟩

set_option maxHeartbeats 8000000 in
set_option maxRecDepth 100000 in
theorem law_small (A1 : Option Addr) (c1 : Nat) (ps : List Pn) (A2 : Option Addr) (c2 : Nat) (qs : List Pn) (key : ByteArray) (w0 : World) (h1 : ps.length ≤ 200) (h2 : qs.length ≤ 200)
    (hR1 : Rd w0 A1 ps) (hR2 : Rd w0 A2 qs) (hs1 : ∀ p ∈ ps, p.key.size ≤ maxLen) (hs2 : ∀ p ∈ qs, p.key.size ≤ maxLen) {B : Nat} (hE : Env B w0) :
    Calls Tryz.prog 3 #[.slice A1 ps.length c1, .slice A2 qs.length c2, .string key] w0 fun e w' => e = .returned (.bool true) ∧ Below w0.heap.size w0 w' := by
  have hd1 : decide ((200 : Int) < (ps.length : Int)) = false := by simp; omega
  have hd2 : decide ((200 : Int) < (qs.length : Int)) = false := by simp; omega
  obtain ⟨M, hM⟩ : ∃ M, M = (grp ps).length := ⟨_, rfl⟩
  obtain ⟨ls, hls⟩ : ∃ ls, ls = lastOf ps := ⟨_, rfl⟩
  obtain ⟨es, hes⟩ : ∃ es, es = keyed key ps := ⟨_, rfl⟩
  obtain ⟨t1, ht1⟩ := bool_of (∀ k, keyed k ps <+: keyed k qs)
  obtain ⟨t2, ht2⟩ := bool_of (∀ k, keyed k qs <+: keyed k ps)
  have KA := hide fun (W : World) (h : Rd W A1 ps) => lent_any A1 ps.length c1 ps W rfl h (by omega)
  have KB := hide fun (W : World) (h : Rd W A2 qs) => lent_any A2 qs.length c2 qs W rfl h (by omega)
  have KK := hide fun (W : World) (g c : Nat) (h : Rd W (some ⟨g, 0, none⟩) ps) => (keys_sep (some ⟨g, 0, none⟩) ps.length c ps W rfl h (by omega)).mono fun _ _ => keysM_sep hM
  have KL := hide fun (W : World) (g c : Nat) (h : Rd W (some ⟨g, 0, none⟩) ps) => (last_any (some ⟨g, 0, none⟩) ps.length c ps W rfl h (by omega)).mono fun e w' (h : OfDone (lastOf ps) W e w') => row_done (hls ▸ h : OfDone ls W e w')
  have KO := hide fun (W : World) (g c : Nat) (h : Rd W (some ⟨g, 0, none⟩) ps) => (of_any (some ⟨g, 0, none⟩) ps.length c ps key W rfl h (by omega)).mono fun e w' (h : OfDone (keyed key ps) W e w') => row_done (hes ▸ h : OfDone es W e w')
  have RK := hide fun (W : World) (h : Rd W A1 ps) => (rKeys_any A1 ps.length c1 ps W rfl h (by omega)).mono fun _ _ => keysM_done hM
  have RL := hide fun (W : World) (h : Rd W A1 ps) => (rlast_any A1 ps.length c1 ps W rfl h (by omega)).mono fun e w' (h : OfDone (lastOf ps) W e w') => row_done (hls ▸ h : OfDone ls W e w')
  have RO := hide fun (W : World) (h : Rd W A1 ps) => (rof_any A1 ps.length c1 ps key W rfl h (by omega)).mono fun e w' (h : OfDone (keyed key ps) W e w') => row_done (hes ▸ h : OfDone es W e w')
  have RB1 := hide fun (W : World) (h : Rd W A1 ps) (k : Rd W A2 qs) => (rbegins_any A1 ps.length c1 ps A2 qs.length c2 qs W rfl h rfl k (by omega) (by omega)).mono fun e w' (h : RbDone ps qs W e w') => (by
    obtain ⟨r, h1, h2, h3⟩ := h
    obtain rfl : r = t1 := bool_eq (h2.trans ht1.symm)
    exact ⟨h1, h3⟩ : e = .returned (.bool t1) ∧ Fut W w')
  have RB2 := hide fun (W : World) (h : Rd W A2 qs) (k : Rd W A1 ps) => (rbegins_any A2 qs.length c2 qs A1 ps.length c1 ps W rfl h rfl k (by omega) (by omega)).mono fun e w' (h : RbDone qs ps W e w') => (by
    obtain ⟨r, h1, h2, h3⟩ := h
    obtain rfl : r = t2 := bool_eq (h2.trans ht2.symm)
    exact ⟨h1, h3⟩ : e = .returned (.bool t2) ∧ Fut W w')
  have BG := hide fun (W : World) (g c g2 c2 : Nat) (h : Rd W (some ⟨g, 0, none⟩) ps) (k : Rd W (some ⟨g2, 0, none⟩) qs) => (begins_any (some ⟨g, 0, none⟩) ps.length c ps (some ⟨g2, 0, none⟩) qs.length c2 qs W rfl h rfl k (by omega) (by omega) hs1 hs2).mono fun e w' (h : BeginsDone ps qs W e w') => (by
    obtain ⟨r, h1, h2, h3⟩ := h
    obtain rfl : r = t1 := bool_eq (h2.trans ht1.symm)
    exact ⟨h1, h3⟩ : e = .returned (.bool t1) ∧ Fut W w')
  have AL := hide fun (W : World) (g c g2 c2 : Nat) (h : Rd W (some ⟨g, 0, none⟩) ps) (k : Rd W (some ⟨g2, 0, none⟩) qs) => (alike_any (some ⟨g, 0, none⟩) ps.length c ps (some ⟨g2, 0, none⟩) qs.length c2 qs W rfl h rfl k (by omega) (by omega) hs1 hs2).mono fun e w' (h : AlikeDone ps qs W e w') => (by
    obtain ⟨r, h1, h2, h3⟩ := h
    obtain rfl : r = (t1 && t2) := bool_eq (by rw [h2, both_ways, ← ht1, ← ht2, Bool.and_eq_true])
    exact ⟨h1, h3⟩ : e = .returned (.bool (t1 && t2)) ∧ Fut W w')
  have SM := hide fun (W : World) (A B : Option Addr) (c d : Nat) (xs : List Pn) (h : Rd W A xs) (k : Rd W B xs) (hl : xs.length ≤ 10000) => (same_any A B xs.length xs.length c d xs xs W rfl rfl h k (by omega) (by omega)).mono fun e w' (h : SameDone (decide (xs = xs)) W e w') => (by
    rw [decide_eq_true rfl] at h
    exact h : SameDone true W e w')
  have HMM : Hid (M ≤ 10000) := by have := grp_length ps; show _ ≤ _; omega
  have HGR : Hid (∀ x ∈ grp ps, x.2.length ≤ 10000) := fun x hx => Nat.le_trans (grp_len_le (k := x.1) hx) (by omega)
  have HLS : Hid (ls.length ≤ 10000) := by
    show _ ≤ _
    have h3 := lst_length ps
    rw [hls, List.length_map]
    omega
  have HES : Hid (es.length ≤ 10000) := by
    show _ ≤ _
    rw [hes]
    exact Nat.le_trans (List.length_filter_le _ _) (by omega)
  have R1 := hide hR1
  have R2 := hide hR2
  have HEE := hide hE
  clear hR1 hR2 hE hs1 hs2 hls hes hM ht1 ht2
  cases t1 <;> cases t2
  all_goals
    go_enter Tryz.func3, Tryz.ntmps3
    go_wp2_with (first
    | (go_at_call 17; (with_reducible refine (kept_any A2 gn qs.length c2 capn qs w19 rfl (R2.out.keep ((((((((((((((((((f1.out.tr f2.out).tr f3.out).tr f4.out).tr f5.out).tr f6.out).tr f7.out).tr f8.out).tr f9.out).tr f10.out).tr f11.out).tr f12.out).tr f13.out).tr f14.out).tr f15.out).tr f16.out).tr f17.out).tr f18.out).tr f19.out)) (Rn.out.keep ((((((((((((((((f3.out.tr f4.out).tr f5.out).tr f6.out).tr f7.out).tr f8.out).tr f9.out).tr f10.out).tr f11.out).tr f12.out).tr f13.out).tr f14.out).tr f15.out).tr f16.out).tr f17.out).tr f18.out).tr f19.out)) (below_cell ((((((((((((((((f3.out.tr f4.out).tr f5.out).tr f6.out).tr f7.out).tr f8.out).tr f9.out).tr f10.out).tr f11.out).tr f12.out).tr f13.out).tr f14.out).tr f15.out).tr f16.out).tr f17.out).tr f18.out).tr f19.out) Mn.out) (Nat.lt_of_succ_le Cn.out) (by omega)).mono ?_); rintro e w20 ⟨rfl, hk20⟩; have hb20 := fut_drew hk20; have f20 := hide (p := Fut w19 w20) hb20)
    | (go_at_call 17; (with_reducible refine (kept_any A1 gm ps.length c1 capm ps w18 rfl (R1.out.keep (((((((((((((((((f1.out.tr f2.out).tr f3.out).tr f4.out).tr f5.out).tr f6.out).tr f7.out).tr f8.out).tr f9.out).tr f10.out).tr f11.out).tr f12.out).tr f13.out).tr f14.out).tr f15.out).tr f16.out).tr f17.out).tr f18.out)) (Rm.out.keep ((((((((((((((((f2.out.tr f3.out).tr f4.out).tr f5.out).tr f6.out).tr f7.out).tr f8.out).tr f9.out).tr f10.out).tr f11.out).tr f12.out).tr f13.out).tr f14.out).tr f15.out).tr f16.out).tr f17.out).tr f18.out)) (below_cell ((((((((((((((((f2.out.tr f3.out).tr f4.out).tr f5.out).tr f6.out).tr f7.out).tr f8.out).tr f9.out).tr f10.out).tr f11.out).tr f12.out).tr f13.out).tr f14.out).tr f15.out).tr f16.out).tr f17.out).tr f18.out) Mm.out) (Nat.lt_of_succ_le Cm.out) (by omega)).mono ?_); rintro e w19 ⟨rfl, hk19⟩; have hb19 := fut_drew hk19; have f19 := hide (p := Fut w18 w19) hb19)
    | (go_at_call 16; (with_reducible refine (AL.out _ _ _ _ _ (Rm.out.keep (((((((((((((((f2.out.tr f3.out).tr f4.out).tr f5.out).tr f6.out).tr f7.out).tr f8.out).tr f9.out).tr f10.out).tr f11.out).tr f12.out).tr f13.out).tr f14.out).tr f15.out).tr f16.out).tr f17.out)) (Rn.out.keep ((((((((((((((f3.out.tr f4.out).tr f5.out).tr f6.out).tr f7.out).tr f8.out).tr f9.out).tr f10.out).tr f11.out).tr f12.out).tr f13.out).tr f14.out).tr f15.out).tr f16.out).tr f17.out))).mono ?_); rintro e w18 ⟨rfl, hb18⟩; have f18 := hide (p := Fut w17 w18) hb18)
    | (go_at_call 15; (with_reducible refine (BG.out _ _ _ _ _ (Rm.out.keep ((((((((((((((f2.out.tr f3.out).tr f4.out).tr f5.out).tr f6.out).tr f7.out).tr f8.out).tr f9.out).tr f10.out).tr f11.out).tr f12.out).tr f13.out).tr f14.out).tr f15.out).tr f16.out)) (Rn.out.keep (((((((((((((f3.out.tr f4.out).tr f5.out).tr f6.out).tr f7.out).tr f8.out).tr f9.out).tr f10.out).tr f11.out).tr f12.out).tr f13.out).tr f14.out).tr f15.out).tr f16.out))).mono ?_); rintro e w17 ⟨rfl, hb17⟩; have f17 := hide (p := Fut w16 w17) hb17)
    | (go_at_call 13; (with_reducible refine (SM.out _ _ _ _ _ _ ((rd_row HE.out rfl).keep (((((((f8.out.tr f9.out).tr f10.out).tr f11.out).tr f12.out).tr f13.out).tr f14.out).tr f15.out)) ((rd_row HI.out rfl).keep (Fut.refl _)) HES.out).mono ?_); rintro e w16 ⟨rfl, hk16⟩; have hb16 := fut_drew hk16; have f16 := hide (p := Fut w15 w16) hb16)
    | (go_at_call 14; (with_reducible refine (RO.out _ (R1.out.keep (((((((((((((f1.out.tr f2.out).tr f3.out).tr f4.out).tr f5.out).tr f6.out).tr f7.out).tr f8.out).tr f9.out).tr f10.out).tr f11.out).tr f12.out).tr f13.out).tr f14.out))).mono ?_); rintro e w15 ⟨Ai, ci, rfl, hi, hb15⟩; have HI := hide hi; clear hi; have f15 := hide (p := Fut w14 w15) hb15)
    | (go_at_call 13; (with_reducible refine (SM.out _ _ _ _ _ _ ((rd_row HC.out rfl).keep (((((((f6.out.tr f7.out).tr f8.out).tr f9.out).tr f10.out).tr f11.out).tr f12.out).tr f13.out)) ((rd_row HH.out rfl).keep ((f11.out.tr f12.out).tr f13.out)) HLS.out).mono ?_); rintro e w14 ⟨rfl, hk14⟩; have hb14 := fut_drew hk14; have f14 := hide (p := Fut w13 w14) hb14)
    | (go_at_call 12; (with_reducible refine (samekeys_true Aa Ag M ca cg w2.heap.size w8.heap.size La Lg (grp ps) w12 (own_keepsTy (p := fun _ => True) HA.out (KeepsTy.below ((((((((f4.out.tr f5.out).tr f6.out).tr f7.out).tr f8.out).tr f9.out).tr f10.out).tr f11.out).tr f12.out)) trivial) (own_keepsTy (p := fun _ => True) HG.out (KeepsTy.below ((f10.out.tr f11.out).tr f12.out)) trivial) (SA.out.2.imp fun _ _ _ h => h.below ((((((((f4.out.tr f5.out).tr f6.out).tr f7.out).tr f8.out).tr f9.out).tr f10.out).tr f11.out).tr f12.out)) (SG.out.2.imp fun _ _ _ h => h.below ((f10.out.tr f11.out).tr f12.out)) LA.out LG.out HGR.out HMM.out).mono ?_); rintro e w13 ⟨rfl, hk13⟩; have hb13 := fut_drew hk13; have f13 := hide (p := Fut w12 w13) hb13)
    | (go_at_call 11; (with_reducible refine (RB2.out _ (R2.out.keep ((((((((((f1.out.tr f2.out).tr f3.out).tr f4.out).tr f5.out).tr f6.out).tr f7.out).tr f8.out).tr f9.out).tr f10.out).tr f11.out)) (R1.out.keep ((((((((((f1.out.tr f2.out).tr f3.out).tr f4.out).tr f5.out).tr f6.out).tr f7.out).tr f8.out).tr f9.out).tr f10.out).tr f11.out))).mono ?_); rintro e w12 ⟨rfl, hb12⟩; have f12 := hide (p := Fut w11 w12) hb12)
    | (go_at_call 11; (with_reducible refine (RB1.out _ (R1.out.keep (((((((((f1.out.tr f2.out).tr f3.out).tr f4.out).tr f5.out).tr f6.out).tr f7.out).tr f8.out).tr f9.out).tr f10.out)) (R2.out.keep (((((((((f1.out.tr f2.out).tr f3.out).tr f4.out).tr f5.out).tr f6.out).tr f7.out).tr f8.out).tr f9.out).tr f10.out))).mono ?_); rintro e w11 ⟨rfl, hb11⟩; have f11 := hide (p := Fut w10 w11) hb11)
    | (go_at_call 10; (with_reducible refine (RL.out _ (R1.out.keep ((((((((f1.out.tr f2.out).tr f3.out).tr f4.out).tr f5.out).tr f6.out).tr f7.out).tr f8.out).tr f9.out))).mono ?_); rintro e w10 ⟨Ah, c9, rfl, hh, hb10⟩; have HH := hide hh; clear hh; have f10 := hide (p := Fut w9 w10) hb10)
    | (go_at_call 9; (with_reducible refine (RK.out _ (R1.out.keep (((((((f1.out.tr f2.out).tr f3.out).tr f4.out).tr f5.out).tr f6.out).tr f7.out).tr f8.out))).mono ?_); rintro e w9 ⟨Ag, cg, Lg, rfl, hlg, hg, hag, hb9⟩; have HG := hide hg; have SG := hide hag; have LG := hide hlg; clear hg hag hlg; have f9 := hide (p := Fut w8 w9) hb9)
    | (go_at_call 8; (with_reducible refine (KO.out _ _ _ (Rm.out.keep (((((f2.out.tr f3.out).tr f4.out).tr f5.out).tr f6.out).tr f7.out))).mono ?_); rintro e w8 ⟨Af, cf, rfl, hf, hb8⟩; have HF := hide hf; clear hf; have f8 := hide (p := Fut w7 w8) hb8)
    | (go_at_call 8; (with_reducible refine (KO.out _ _ _ (Rm.out.keep ((((f2.out.tr f3.out).tr f4.out).tr f5.out).tr f6.out))).mono ?_); rintro e w7 ⟨Ae, ce, rfl, he, hb7⟩; have HE := hide he; clear he; have f7 := hide (p := Fut w6 w7) hb7)
    | (go_at_call 7; (with_reducible refine (KL.out _ _ _ (Rm.out.keep (((f2.out.tr f3.out).tr f4.out).tr f5.out))).mono ?_); rintro e w6 ⟨Ad, cd, rfl, hd, hb6⟩; have HD := hide hd; clear hd; have f6 := hide (p := Fut w5 w6) hb6)
    | (go_at_call 7; (with_reducible refine (KL.out _ _ _ (Rm.out.keep ((f2.out.tr f3.out).tr f4.out))).mono ?_); rintro e w5 ⟨Ac, cc, rfl, hc, hb5⟩; have HC := hide hc; clear hc; have f5 := hide (p := Fut w4 w5) hb5)
    | (go_at_call 6; (with_reducible refine (KK.out _ _ _ (Rm.out.keep (f2.out.tr f3.out))).mono ?_); rintro e w4 ⟨Ab, cb, Lb, rfl, hlb, hb, hsb, hb4⟩; have HB := hide hb; have SB := hide hsb; have LB := hide hlb; clear hb hsb hlb; have f4 := hide (p := Fut w3 w4) hb4)
    | (go_at_call 6; (with_reducible refine (KK.out _ _ _ (Rm.out.keep f2.out)).mono ?_); rintro e w3 ⟨Aa, ca, La, rfl, hla, ha, hsa, hb3⟩; have HA := hide ha; have SA := hide hsa; have LA := hide hla; clear ha hsa hla; have f3 := hide (p := Fut w2 w3) hb3)
    | (go_at_call 5; (with_reducible refine (KB.out _ (R2.out.keep f1.out)).mono ?_); rintro e w2 ⟨gn, capn, rfl, hn, hb2⟩; have HN := hide hn; have Rn := hide (Rd.of_own hn (Nat.le_succ _)); have Mn := hide (lent_mark hn); have Cn := hide (own_cap hn); clear hn; have f2 := hide (p := Fut w1 w2) hb2)
    | (go_at_call 5; (with_reducible refine (KA.out _ (R1.out.keep (Fut.refl _))).mono ?_); rintro e w1 ⟨gm, capm, rfl, hm, hb1⟩; have HM := hide hm; have Rm := hide (Rd.of_own hm (Nat.le_succ _)); have Mm := hide (lent_mark hm); have Cm := hide (own_cap hm); clear hm; have f1 := hide (p := Fut w0 w1) hb1)
    | fail)
    obtain ⟨P, hP⟩ : ∃ P : Nat → Prop, P = fun i => (w2.heap.size ≤ i ∧ i < w3.heap.size) ∨ (w4.heap.size ≤ i ∧ i < w5.heap.size) ∨ (w6.heap.size ≤ i ∧ i < w7.heap.size) := ⟨_, rfl⟩
    have PA : Hid (∀ i, w2.heap.size ≤ i ∧ i < w3.heap.size → P i) := fun i h => by rw [hP]; exact .inl h
    have PC : Hid (∀ i, w4.heap.size ≤ i ∧ i < w5.heap.size → P i) := fun i h => by rw [hP]; exact .inr (.inl h)
    have PE : Hid (∀ i, w6.heap.size ≤ i ∧ i < w7.heap.size → P i) := fun i h => by rw [hP]; exact .inr (.inr h)
    have PN : Hid (∀ i, P i → (w2.heap.size ≤ i ∧ i < w3.heap.size) ∨ (w4.heap.size ≤ i ∧ i < w5.heap.size) ∨ (w6.heap.size ≤ i ∧ i < w7.heap.size)) := fun i h => by rw [hP] at h; exact h
    clear hP
    have FW : Fut w0 w20 := (((((((((((((((((((f1.out.tr f2.out).tr f3.out).tr f4.out).tr f5.out).tr f6.out).tr f7.out).tr f8.out).tr f9.out).tr f10.out).tr f11.out).tr f12.out).tr f13.out).tr f14.out).tr f15.out).tr f16.out).tr f17.out).tr f18.out).tr f19.out).tr f20.out)
    have F02 := hide (p := Fut w0 w2) (f1.out.tr f2.out)
    have HA20 := hide (p := w20.ownsRow w2.heap.size 32 2 (.slice Aa M ca) M (kcells La)) (own_keepsTy (p := fun _ => True) HA.out (KeepsTy.below ((((((((((((((((f4.out.tr f5.out).tr f6.out).tr f7.out).tr f8.out).tr f9.out).tr f10.out).tr f11.out).tr f12.out).tr f13.out).tr f14.out).tr f15.out).tr f16.out).tr f17.out).tr f18.out).tr f19.out).tr f20.out)) trivial)
    have HYS : Hid (∀ (j : Nat) (x : ByteArray × Sl), La[j]? = some x → (kcells La)[j * 2 + 1]? = some x.2.val) := fun j x hx => by
      obtain ⟨h1, h2⟩ := List.getElem?_eq_some_iff.1 hx
      rw [← h2]
      exact (kcells_at La j h1).2
    have ROWS : Hid (∀ (j : Nat) (x : ByteArray × Sl), La[j]? = some x → ∃ xs, w20.ownsRow w2.heap.size 40 9 x.2.val x.2.n xs) := fun j x hx => by
      obtain ⟨b, _, h1⟩ := all2_idx (SA.out.2.imp fun _ _ _ h => h.below ((((((((((((((((f4.out.tr f5.out).tr f6.out).tr f7.out).tr f8.out).tr f9.out).tr f10.out).tr f11.out).tr f12.out).tr f13.out).tr f14.out).tr f15.out).tr f16.out).tr f17.out).tr f18.out).tr f19.out).tr f20.out)) hx
      exact ⟨_, by rw [h1.2.1]; exact h1.2.2.2⟩
    have SMALL : Hid (∀ (j : Nat) (x : ByteArray × Sl), La[j]? = some x → x.2.n ≤ 10000) := fun j x hx => by
      obtain ⟨b, h0, h1⟩ := all2_idx SA.out.2 hx
      rw [h1.2.1]
      exact HGR.out b (List.mem_of_getElem? h0)
    have BLK : Hid (∀ (j : Nat) (x : ByteArray × Sl), La[j]? = some x → Btw w2.heap.size w3.heap.size x.2.val) := fun j x hx => by
      obtain ⟨b, _, h1⟩ := all2_idx SA.out.2 hx
      exact btw_own h1.2.2.2
    have HAB := hide (btw_own HA.out)
    have SZ : Hid (w2.heap.size ≤ w20.heap.size) := ((((((((((((((((((f3.out.tr f4.out).tr f5.out).tr f6.out).tr f7.out).tr f8.out).tr f9.out).tr f10.out).tr f11.out).tr f12.out).tr f13.out).tr f14.out).tr f15.out).tr f16.out).tr f17.out).tr f18.out).tr f19.out).tr f20.out)).size
    go_loopw [19] (fun i wr => ∃ q : Nat, q ≤ M ∧ i = .int .i64 q ∧ Below w0.heap.size w0 wr ∧ Kept (fun i => w2.heap.size ≤ i ∧ i < w3.heap.size) w20 wr ∧ ∃ ys : List Value, Hid (wr.ownsRow w2.heap.size 32 2 (.slice Aa M ca) M ys) ∧ Hid (∀ (j : Nat) (x : ByteArray × Sl), La[j]? = some x → ys[j * 2 + 1]? = some x.2.val) ∧ Hid (∀ (j : Nat) (x : ByteArray × Sl), q ≤ j → La[j]? = some x → ∃ xs, wr.ownsRow w2.heap.size 40 9 x.2.val x.2.n xs)) (fun i _ => M - (intOf i).toNat)
    case atStart => exact ⟨0, Nat.zero_le _, rfl, FW, Kept.refl _ _, _, HA20.out, HYS.out, fun j x _ hx => ROWS.out j x hx⟩
    case round =>
      obtain ⟨q, hq, rfl, hbw, hkp, ys, hown, hys, hrows⟩ := hrel
      by_cases hlt : q < M
      · have hl : q < La.length := by rw [LA.out]; exact hlt
        have hM2 : M ≤ 10000 := HMM.out
        obtain ⟨x, hx⟩ : ∃ x, La[q]? = some x := ⟨_, List.getElem?_eq_getElem hl⟩
        obtain ⟨xs, hxo⟩ := hrows.out q x (Nat.le_refl _) hx
        obtain ⟨ga, capa, hva, hBa, hla2⟩ := hown.out.form (by omega)
        injection hva with e1 _ e2
        subst e1 e2
        have hxn := SMALL.out q x hx
        obtain ⟨xk, P0, xn, xc⟩ := x
        have g1 : wr.cell? ⟨ga, q * 2 + 1, none⟩ = some (.slice P0 xn xc) := by
          rw [hown.out.cellAt _ (by omega)]
          exact hys.out q _ hx
        have HSP := hide (spoilt_any w2.heap.size (.slice P0 xn xc) xn xs wr hxo (by have := hkp.size; have := SZ.out; omega) hxn)
        have HXO := hide hxo
        have HX := hide hx
        clear hxo hx hl
        go_wp2_with (go_at_call 18; (with_reducible refine HSP.out.mono ?_); rintro e W ⟨rfl, hgr⟩; have HGR2 := hide hgr; have hrow2 := own_grown hown.out hgr (fun i hi => own_ne hown.out HXO.out (by decide) hi); have HR2 := hide hrow2; obtain ⟨u0, c0⟩ : ∃ u, W.cell? ⟨ga, q * 2, none⟩ = some u := ⟨_, (hrow2.cellAt _ (by omega)).trans (List.getElem?_eq_getElem (by rw [hrow2.1]; omega))⟩; have p0 := hrow2.frozenAt (q * 2); clear hrow2 hgr)
        go_roundw
        case rel =>
          obtain ⟨s1, s2⟩ := HR2.out.stored (q * 2) (.string ⟨#[103, 111, 110, 101]⟩)
          have hblk := BLK.out q _ HX.out
          refine ⟨q + 1, by omega, by go_num, (hbw.grown HGR2.out hbw.size (fun r hr => ?_)).grown s2 ?_ (fun r hr => ?_), (hkp.grown HGR2.out (fun i hi => Or.inl (hblk i hi))).grown s2 (fun i hi => Or.inl (HAB.out i hi)), _, s1, ?_, ?_⟩
          · have := (hblk r hr).1; have := F02.out.size; omega
          · exact (hbw.grown HGR2.out hbw.size (fun r hr => by have := (hblk r hr).1; have := F02.out.size; omega)).size
          · have := (HAB.out r hr).1; have := F02.out.size; omega
          · intro j y hy
            rw [List.getElem?_set_ne (by omega)]
            exact hys.out j y hy
          · intro j y hj hy
            obtain ⟨zs, hz⟩ := hrows.out j y (by omega) hy
            obtain ⟨hq9, hx9⟩ := List.getElem?_eq_some_iff.1 HX.out
            obtain ⟨hj9, hy9⟩ := List.getElem?_eq_some_iff.1 hy
            have hsep := List.pairwise_iff_getElem.1 (SA.out.1 (by simp)) q j hq9 hj9 (by omega)
            rw [hx9, hy9] at hsep
            have hz2 := own_grown hz HGR2.out (fun i hi h9 => hsep ((own_addr HXO.out h9).trans (own_addr hz hi).symm))
            exact ⟨zs, own_grown hz2 s2 (fun i hi h9 => own_ne hz2 HR2.out (by decide) hi h9)⟩
        case measure => simp [intOf]; omega
      · have hM2 : M ≤ 10000 := HMM.out
        obtain rfl : q = M := by omega
        have z1 : w0.heap.size ≤ w1.heap.size := f1.out.size
        have z2 : w1.heap.size ≤ w2.heap.size := f2.out.size
        have z3 : w2.heap.size ≤ w3.heap.size := f3.out.size
        have z4 : w3.heap.size ≤ w4.heap.size := f4.out.size
        have z5 : w4.heap.size ≤ w5.heap.size := f5.out.size
        have z6 : w5.heap.size ≤ w6.heap.size := f6.out.size
        have z7 : w6.heap.size ≤ w7.heap.size := f7.out.size
        have z8 : w7.heap.size ≤ w8.heap.size := f8.out.size
        have z9 : w8.heap.size ≤ w9.heap.size := f9.out.size
        have z10 : w9.heap.size ≤ w10.heap.size := f10.out.size
        have FC5 : Fut w5 w20 := ((((((((((((((f6.out.tr f7.out).tr f8.out).tr f9.out).tr f10.out).tr f11.out).tr f12.out).tr f13.out).tr f14.out).tr f15.out).tr f16.out).tr f17.out).tr f18.out).tr f19.out).tr f20.out)
        have FC7 : Fut w7 w20 := ((((((((((((f8.out.tr f9.out).tr f10.out).tr f11.out).tr f12.out).tr f13.out).tr f14.out).tr f15.out).tr f16.out).tr f17.out).tr f18.out).tr f19.out).tr f20.out)
        have z20 : w10.heap.size ≤ w20.heap.size := ((((((((((f11.out.tr f12.out).tr f13.out).tr f14.out).tr f15.out).tr f16.out).tr f17.out).tr f18.out).tr f19.out).tr f20.out)).size
        have hcw : wr.ownsRow w4.heap.size 40 9 (.slice Ac ls.length cc) ls.length (cellsOf ls) := late HC.out FC5 hkp (fun r h3 h4 h5 => by omega)
        have hew : wr.ownsRow w6.heap.size 40 9 (.slice Ae es.length ce) es.length (cellsOf es) := late HE.out FC7 hkp (fun r h3 h4 h5 => by omega)
        have BC := hide (btw_own HC.out)
        have BE := hide (btw_own HE.out)
        have KP := hide (hkp.mono PA.out)
        have HSC := hide (spoilt_any w4.heap.size (.slice Ac ls.length cc) ls.length (cellsOf ls) wr hcw (by have := hkp.size; omega) HLS.out)
        have HEW := hide hew
        have HBW := hide hbw
        have zW : w20.heap.size ≤ wr.heap.size := hkp.size
        clear hcw hew hown hys hrows
        go_wp2_with (first
          | (go_at_call 4; (with_reducible refine (known_any W7 (HEE.out.on B7.out)).mono ?_); rintro e W8 ⟨rfl, hb⟩; have B8 := hide (p := Below w0.heap.size w0 W8) (B7.out.trans (hb.mono B7.out.size)))
          | (go_at_call 17; (with_reducible refine (kept_any A1 gm ps.length c1 capm ps W6 rfl (R1.out.keep B6.out) ((Rd.of_own XM.out (Nat.le_succ _)).keep F6.out) (below_cell F6.out (lent_mark XM.out)) (Nat.lt_of_succ_le Cm.out) (by omega)).mono ?_); rintro e W7 ⟨rfl, hk⟩; have B7 := hide (p := Below w0.heap.size w0 W7) (B6.out.trans ((fut_drew hk).mono B6.out.size)))
          | (go_at_call 13; (with_reducible refine (SM.out _ _ _ _ _ _ ((rd_row XF.out rfl).keep F5.out) (rd_row HJ.out rfl) HES.out).mono ?_); rintro e W6 ⟨rfl, hk⟩; have F6 := hide (F5.out.tr (fut_drew hk)); have B6 := hide (p := Below w0.heap.size w0 W6) (B2.out.trans (F6.out.mono B2.out.size)))
          | (go_at_call 14; (with_reducible refine (RO.out _ (R1.out.keep B4.out)).mono ?_); rintro e W5 ⟨Aj, cj, rfl, hj, hb⟩; have HJ := hide hj; have F5 := hide (F4.out.tr hb))
          | (go_at_call 13; (with_reducible refine (SM.out _ _ _ _ _ _ ((rd_row XD.out rfl).keep F3.out) ((rd_row XH.out rfl).keep F3.out) HLS.out).mono ?_); rintro e W4 ⟨rfl, hk⟩; have F4 := hide (F3.out.tr (fut_drew hk)); have B4 := hide (p := Below w0.heap.size w0 W4) (B2.out.trans (F4.out.mono B2.out.size)))
          | (go_at_call 12; (with_reducible refine (samekeys_true Ab Ag q cb cg w3.heap.size w8.heap.size Lb Lg (grp ps) W2 XB.out XG.out XSB.out XSG.out LB.out LG.out HGR.out HMM.out).mono ?_); rintro e W3 ⟨rfl, hk⟩; have F3 := hide (fut_drew hk))
          | (go_at_call 18; (with_reducible refine (HSE.out).mono ?_); rintro e W2 ⟨rfl, hg2⟩; have K2 := hide (K1.out.grown hg2 (fun i hi => Or.inl (PE.out i (BE.out i hi)))); have B2 := hide (B1.out.grown hg2 B1.out.size (fun r hr => by have := (BE.out r hr).1; omega)); clear hg2; have XB := hide (late HB.out (((((((((((((((f5.out.tr f6.out).tr f7.out).tr f8.out).tr f9.out).tr f10.out).tr f11.out).tr f12.out).tr f13.out).tr f14.out).tr f15.out).tr f16.out).tr f17.out).tr f18.out).tr f19.out).tr f20.out) K2.out (fun r h3 h4 h5 => by have h6 := PN.out r h5; omega)); have XG := hide (late HG.out ((((((((((f10.out.tr f11.out).tr f12.out).tr f13.out).tr f14.out).tr f15.out).tr f16.out).tr f17.out).tr f18.out).tr f19.out).tr f20.out) K2.out (fun r h3 h4 h5 => by have h6 := PN.out r h5; omega)); have XD := hide (late HD.out (((((((((((((f7.out.tr f8.out).tr f9.out).tr f10.out).tr f11.out).tr f12.out).tr f13.out).tr f14.out).tr f15.out).tr f16.out).tr f17.out).tr f18.out).tr f19.out).tr f20.out) K2.out (fun r h3 h4 h5 => by have h6 := PN.out r h5; omega)); have XH := hide (late HH.out (((((((((f11.out.tr f12.out).tr f13.out).tr f14.out).tr f15.out).tr f16.out).tr f17.out).tr f18.out).tr f19.out).tr f20.out) K2.out (fun r h3 h4 h5 => by have h6 := PN.out r h5; omega)); have XF := hide (late HF.out (((((((((((f9.out.tr f10.out).tr f11.out).tr f12.out).tr f13.out).tr f14.out).tr f15.out).tr f16.out).tr f17.out).tr f18.out).tr f19.out).tr f20.out) K2.out (fun r h3 h4 h5 => by have h6 := PN.out r h5; omega)); have XM := hide (late HM.out ((((((((((((((((((f2.out.tr f3.out).tr f4.out).tr f5.out).tr f6.out).tr f7.out).tr f8.out).tr f9.out).tr f10.out).tr f11.out).tr f12.out).tr f13.out).tr f14.out).tr f15.out).tr f16.out).tr f17.out).tr f18.out).tr f19.out).tr f20.out) K2.out (fun r h3 h4 h5 => by have h6 := PN.out r h5; omega)); have XSB := hide (lateEnt SB.out.2 (((((((((((((((f5.out.tr f6.out).tr f7.out).tr f8.out).tr f9.out).tr f10.out).tr f11.out).tr f12.out).tr f13.out).tr f14.out).tr f15.out).tr f16.out).tr f17.out).tr f18.out).tr f19.out).tr f20.out) K2.out (fun r h3 h4 h5 => by have h6 := PN.out r h5; omega)); have XSG := hide (lateEnt SG.out.2 ((((((((((f10.out.tr f11.out).tr f12.out).tr f13.out).tr f14.out).tr f15.out).tr f16.out).tr f17.out).tr f18.out).tr f19.out).tr f20.out) K2.out (fun r h3 h4 h5 => by have h6 := PN.out r h5; omega)))
          | (go_at_call 18; (with_reducible refine (HSC.out).mono ?_); rintro e W1 ⟨rfl, hg1⟩; have K1 := hide (KP.out.grown hg1 (fun i hi => Or.inl (PC.out i (BC.out i hi)))); have B1 := hide (HBW.out.grown hg1 HBW.out.size (fun r hr => by have := (BC.out r hr).1; omega)); have he1 := own_grown HEW.out hg1 (fun i hi h9 => by have h3 := BE.out i hi; have h4 := BC.out i h9; omega); have HSE := hide (spoilt_any w6.heap.size (.slice Ae es.length ce) es.length (cellsOf es) W1 he1 (by have := K1.out.size; omega) HES.out); clear he1 hg1)
          | fail)
        go_ret
        exact ⟨rfl, B8.out⟩
end Go.Proofs.YtciahchpdmajbaaGreatDoor
