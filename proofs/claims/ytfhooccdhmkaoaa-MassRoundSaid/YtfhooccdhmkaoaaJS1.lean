/- Lists of numbers, and of such of so many numbers: append; elements read. Plain: no program in sight. -/
import Derived.Test.YtfhooccdhmkaoaaGB
namespace Go.X

/-- so many numbers, and zeros behind -/
def cutL (k : Nat) (F : Nat → Int) (j : Nat) : Int := if j < k then F j else 0
theorem cutL_lt {k j : Nat} {F : Nat → Int} (h : j < k) : cutL k F j = F j := if_pos h
/-- a list that has grown from nothing -/
def LA (m : List Blk) (es : Nat) (e : TypeId) (d : AV) (n : Nat) (F : Nat → Int) : Prop :=
  (d = .nilslice ∧ n = 0) ∨ ∃ p c, d = .slice p 0 n (n + c) ∧ m[p]? = some ⟨[.arr .i64 ((n + c) * es) (cutL (n * es) F)], e⟩
theorem LA.nil {m : List Blk} {es : Nat} {e : TypeId} {F : Nat → Int} : LA m es e .nilslice 0 F := .inl ⟨rfl, rfl⟩
theorem LA.congr {m : List Blk} {es n : Nat} {e : TypeId} {d : AV} {F G : Nat → Int} (h : LA m es e d n F) (hg : ∀ j, j < n * es → F j = G j) : LA m es e d n G := by
  have e1 : cutL (n * es) F = cutL (n * es) G := by
    funext j; unfold cutL; by_cases hj : j < n * es
    · rw [if_pos hj, if_pos hj, hg j hj]
    · rw [if_neg hj, if_neg hj]
  rcases h with h | ⟨p, c, h1, h2⟩
  · exact .inl h
  · exact .inr ⟨p, c, h1, by rw [← e1]; exact h2⟩
/-- what was there is there -/
theorem LA.keep {m m' : List Blk} {es n : Nat} {e : TypeId} {d : AV} {F : Nat → Int} (h : LA m es e d n F) (hk : ∀ q, q ∈ refs d → m'[q]? = m[q]?) : LA m' es e d n F := by
  rcases h with h | ⟨p, c, h1, h2⟩
  · exact .inl h
  · subst h1
    exact .inr ⟨p, c, rfl, by rw [hk p (by simp [refs])]; exact h2⟩
theorem LA.ref {m : List Blk} {es n : Nat} {e : TypeId} {d : AV} {F : Nat → Int} (h : LA m es e d n F) : solid d = true ∧ d ≠ .undef ∧ ∀ q, q ∈ refs d → q < m.length := by
  rcases h with ⟨rfl, -⟩ | ⟨p, c, rfl, h2⟩
  · exact ⟨rfl, by simp, by simp [refs]⟩
  · refine ⟨rfl, by simp, ?_⟩
    intro q hq
    simp only [refs, List.mem_singleton] at hq
    subst hq
    exact (List.getElem?_eq_some_iff.1 h2).1
theorem LA.not_ref {m : List Blk} {es n q : Nat} {e : TypeId} {d : AV} {F : Nat → Int} {B : Blk} (h : LA m es e d n F) (hb : m[q]? = some B) (ht : B.ty ≠ e) : q ∉ refs d := by
  rcases h with ⟨rfl, -⟩ | ⟨p, c, rfl, h2⟩
  · simp [refs]
  · simp only [refs, List.mem_singleton]
    rintro rfl
    rw [hb] at h2
    exact ht (by rw [Option.some.inj h2])
theorem catF_cut {a b o' : Nat} {F g : Nat → Int} : catF a b (cutL a F) 0 g o' = cutL (a + b) (fun j => if j < a then F j else g (o' + (j - a))) := by
  funext j
  unfold catF cutL
  by_cases h1 : j < a
  · have h2 : j < a + b := by omega
    simp [h1, h2]
  · by_cases h2 : j < a + b
    · simp [h1, h2]
    · simp [h1, h2]
theorem putF_cut {a b o' : Nat} {F g : Nat → Int} : putF (cutL a F) (0 + a) b g o' = cutL (a + b) (fun j => if j < a then F j else g (o' + (j - a))) := by
  funext j
  unfold putF cutL
  by_cases h1 : j < a
  · have h2 : j < a + b := by omega
    have h3 : ¬ (0 + a ≤ j ∧ j < 0 + a + b) := by omega
    simp [h1, h2]
    intro h4; omega
  · by_cases h2 : j < a + b
    · have h3 : 0 + a ≤ j ∧ j < 0 + a + b := by omega
      rw [if_pos h3, if_pos h2, show j - (0 + a) = j - a from by omega]
      exact (if_neg h1).symm
    · have h3 : ¬ (0 + a ≤ j ∧ j < 0 + a + b) := by omega
      simp only [h1, h2, h3, if_false]
/-- 'append' of a list to one that has grown from nothing: what follows -/
theorem append_good {T : TT} {s : St} {dst : Option Tmp} {t e : TypeId} {es eb sz n n' o' : Nat} {ez z : AV} {q : Bool} {d x : AV} {F g : Nat → Int} {Q : Ex → St → Prop} {mem : Mem} {nxt : Nat}
    (hT : T t = some ⟨.slice e es eb ez, sz, z, q⟩) (hz : zeroK es ez = some .i64) (heb : eb ≤ 256) (hm : mem = fun b => s.m[b]?) (hnx : nxt = s.m.length) (hd : LA s.m es e d n F) (hx : rowK mem es .i64 x = some (n', o', g)) (hxs : isSl x = true) (hn' : 0 < n') (hn : n + n' ≤ 1048576)
    (hQ : ∀ (m' : List Blk) (v : AV), (∀ p, p < s.m.length → p ∉ refs d → m'[p]? = s.m[p]?) → s.m.length ≤ m'.length → LA m' es e v (n + n') (fun j => if j < n * es then F j else g (o' + (j - n * es))) → Q .norm (St.put { s with m := m' } dst v)) (c : Nat) :
    Good (ofOR dst s (appA T mem nxt [t, t] [d, x] c)) Q := by
  subst hm hnx
  unfold appA
  simp only [hT, hz]
  have hs : isSl x = true := hxs
  rcases hd with ⟨rfl, rfl⟩ | ⟨p, cc, rfl, hp⟩
  · simp only [rowK] at hx ⊢
    rw [hx]
    simp only
    rw [if_pos ⟨by first | rfl | trivial, by omega, heb⟩, if_pos ⟨by simp only [roomK]; omega, hs⟩]
    simp only [ofOR, Good, upM]
    refine hQ _ _ (fun q hq _ => by rw [List.getElem?_append_left hq]) (by simp) (.inr ⟨s.m.length, c, by rw [Nat.zero_add], ?_⟩)
    rw [List.getElem?_append_right (Nat.le_refl _), Nat.sub_self]
    simp only [List.getElem?_cons_zero, Option.some.injEq, Blk.mk.injEq, List.cons.injEq, AV.arr.injEq, and_true, true_and]
    have e1 : (fun _ : Nat => (0 : Int)) = cutL (0 * es) F := by
      funext j; unfold cutL; rw [if_neg (by omega)]
    rw [e1, catF_cut]
    simp [Nat.zero_mul]
  · have hr : rowK (fun b => s.m[b]?) es .i64 (.slice p 0 n (n + cc)) = some (n, 0, cutL (n * es) F) := by
      simp only [rowK, hp, rowB]
      rw [if_pos ⟨by first | rfl | trivial, by rw [Nat.add_mul]; omega⟩]
    rw [hr, hx]
    simp only
    rw [if_pos ⟨by first | rfl | trivial, hn, heb⟩]
    by_cases hroom : n + cc < n + n'
    · rw [if_pos ⟨by simp only [roomK]; exact hroom, hs⟩]
      simp only [ofOR, Good, upM]
      refine hQ _ _ (fun q hq _ => by rw [List.getElem?_append_left hq]) (by simp) (.inr ⟨s.m.length, c, rfl, ?_⟩)
      rw [List.getElem?_append_right (Nat.le_refl _), Nat.sub_self]
      simp only [List.getElem?_cons_zero, Option.some.injEq, Blk.mk.injEq, List.cons.injEq, AV.arr.injEq, and_true, true_and]
      rw [catF_cut, Nat.add_mul n n' es]
    · rw [if_neg (by simp only [roomK]; intro h; exact hroom h.1), if_neg (by omega)]
      simp only [roomA, hp]
      rw [if_pos ⟨by first | rfl | trivial, by
        rw [Nat.zero_add]; exact Nat.mul_le_mul_right _ (by omega)⟩]
      simp only [ofOR, Good, upM, List.append_nil]
      refine hQ _ _ (fun q hq hqr => ?_) (by simp) (.inr ⟨p, cc - n', ?_, ?_⟩)
      · rw [List.getElem?_modify]
        have : ¬ p = q := fun e => hqr (by simp [refs, e])
        simp [this]
      · rw [show n + n' + (cc - n') = n + cc from by omega]
      · rw [List.getElem?_modify]
        simp only [if_true, hp]
        rw [show n + n' + (cc - n') = n + cc from by omega, putF_cut, Nat.add_mul n n' es]
        rfl
theorem ofOR_val {d : Option Tmp} {s : St} {v : AV} {up : List (Nat × List AV)} {nw : List Blk} : ofOR d s (.val v up nw) = .fin .norm (St.put { s with m := upM s.m up ++ nw } d v) := rfl
theorem ofOR_pan {d : Option Tmp} {s : St} {v : AV} {up : List (Nat × List AV)} {nw : List Blk} : ofOR d s (.pan v up nw) = .fin (.pan v) { s with m := upM s.m up ++ nw } := rfl
theorem ofOR_fail {d : Option Tmp} {s : St} : ofOR d s .fail = .fail := rfl
/-- an element of three numbers -/
theorem loadB_three {ti : TI} {B : Blk} {o1 n0 n o i : Nat} {f : Nat → Int} (ha : ti.kind.agg = true) (hs : ti.size = 3) (h : rowB 3 .i64 (some B) o1 n0 = some (n, o, f)) (hi : i < n) :
    loadB ti B (o1 + i * 3) = some (.agg [.int .i64 (f (o + i * 3)), .int .i64 (f (o + i * 3 + 1)), .int .i64 (f (o + i * 3 + 2))]) := by
  obtain ⟨items, ty⟩ := B
  unfold rowB at h
  split at h
  · rename_i b k1 N F t e
    simp only [Option.some.injEq, Blk.mk.injEq] at e
    obtain ⟨rfl, rfl⟩ := e
    split at h
    · rename_i hc
      obtain ⟨rfl, hN⟩ := hc
      simp only [Option.some.injEq, Prod.mk.injEq] at h
      obtain ⟨rfl, rfl, rfl⟩ := h
      have hle : o1 + i * 3 + 3 ≤ N := by omega
      simp only [loadB, ha, if_true, hs, readRow]
      by_cases h0 : o1 + i * 3 = 0 ∧ 3 = N
      · rw [if_pos h0]
        obtain ⟨e0, e1⟩ := h0
        subst e1
        simp [asAgg, explode, List.range, List.range.loop, e0]
      · rw [if_neg h0, if_pos hle]
        simp [asAgg, explode, List.range, List.range.loop]
    · simp at h
  · rename_i b cs t0 fr k1 F S t e
    simp only [Option.some.injEq, Blk.mk.injEq] at e
    obtain ⟨rfl, rfl⟩ := e
    split at h
    · rename_i hc
      obtain ⟨rfl, hN⟩ := hc
      simp only [Option.some.injEq, Prod.mk.injEq] at h
      obtain ⟨rfl, rfl, rfl⟩ := h
      have hcov : covB S (o1 + i * 3) 3 = true := by
        unfold covB
        rw [List.all_eq_true]
        intro j hj
        have hj3 := List.mem_range.1 hj
        rw [Nat.add_assoc]
        exact covB_get hN (by omega)
      simp only [loadB, hs, hcov, ha, if_true]
      simp [asAgg, explode, List.range, List.range.loop]
    · simp at h
  · split at h
    · simp only [Option.some.injEq, Prod.mk.injEq] at h
      omega
    · simp at h
  · simp at h
end Go.X
