/- Halves and the reach of a shape: how they stand to each other. Plain: no program in sight. -/
import Derived.Test.YtgejbdalmjopiaaJUL
import Derived.Test.YtgejbdalmjopiaaJT1
namespace Go.X
open Go.Proofs
attribute [local irreducible] Good
theorem luI_ge {n a : Int} (h0 : 0 ≤ n) (ha : a * a ≤ n) : a ≤ luI n := by
  obtain ⟨h1, h2, h3⟩ := rootI_is h0
  unfold luI
  split
  · rename_i e
    rcases Int.lt_or_le (rootI n) a with k | k
    · have := Int.mul_le_mul (show rootI n + 1 ≤ a by omega) (show rootI n + 1 ≤ a by omega) (by omega) (by omega)
      have e2 : (rootI n + 1) * (rootI n + 1) = rootI n * rootI n + 2 * rootI n + 1 := by grind
      omega
    · exact k
  · rcases Int.lt_or_le (rootI n + 1) a with k | k
    · have := Int.mul_le_mul (show rootI n + 1 ≤ a by omega) (show rootI n + 1 ≤ a by omega) (by omega) (by omega)
      omega
    · exact k
theorem luI_le {n r : Int} (h0 : 0 ≤ n) (hr : 0 ≤ r) (h : n ≤ r * r) : luI n ≤ r := by
  obtain ⟨h1, h2, h3⟩ := rootI_is h0
  have k : rootI n ≤ r := by
    rcases Int.lt_or_le r (rootI n) with k | k
    · have := Int.mul_le_mul (show r + 1 ≤ rootI n by omega) (show r + 1 ≤ rootI n by omega) (by omega) (by omega)
      have e2 : (r + 1) * (r + 1) = r * r + 2 * r + 1 := by grind
      omega
    · exact k
  unfold luI
  split
  · exact k
  · rename_i e
    rcases Int.lt_or_le (rootI n) r with k2 | k2
    · omega
    · have : rootI n = r := by omega
      rw [this] at e h2
      omega
theorem sq_sm {a : Int} (h : SmN a) : 0 ≤ a * a ∧ a * a ≤ 75557863725914323419136 := by
  unfold SmN at h
  refine ⟨sq_nonneg a, ?_⟩
  have := (mulb h h).2
  omega
theorem lenF_sum {F : Nat → Int} {i : Nat} (h : SmN (F (i * 3)) ∧ SmN (F (i * 3 + 1)) ∧ SmN (F (i * 3 + 2))) : 0 ≤ lenF F i ∧ lenF F i ≤ 549755813888 ∧ lenF F i = luI (F (i * 3) * F (i * 3) + F (i * 3 + 1) * F (i * 3 + 1) + F (i * 3 + 2) * F (i * 3 + 2)) := by
  obtain ⟨h0, h1, h2⟩ := h
  have s0 := sq_sm h0
  have s1 := sq_sm h1
  have s2 := sq_sm h2
  have a := luI_ge (n := F (i * 3) * F (i * 3) + F (i * 3 + 1) * F (i * 3 + 1) + F (i * 3 + 2) * F (i * 3 + 2)) (a := 0) (by omega) (by omega)
  have b := luI_le (n := F (i * 3) * F (i * 3) + F (i * 3 + 1) * F (i * 3 + 1) + F (i * 3 + 2) * F (i * 3 + 2)) (r := 549755813888) (by omega) (by omega) (by omega)
  have e : lenF F i = luI (F (i * 3) * F (i * 3) + F (i * 3 + 1) * F (i * 3 + 1) + F (i * 3 + 2) * F (i * 3 + 2)) := by
    unfold lenF
    exact clampI_self (by unfold InI; omega)
  rw [e]
  exact ⟨a, b, rfl⟩
theorem lenF_ge {F : Nat → Int} {i c : Nat} (hc : c < 3) (h : SmN (F (i * 3)) ∧ SmN (F (i * 3 + 1)) ∧ SmN (F (i * 3 + 2))) : F (i * 3 + c) ≤ lenF F i ∧ -F (i * 3 + c) ≤ lenF F i := by
  obtain ⟨-, -, e⟩ := lenF_sum h
  obtain ⟨h0, h1, h2⟩ := h
  have s0 := sq_sm h0
  have s1 := sq_sm h1
  have s2 := sq_sm h2
  have key : F (i * 3 + c) * F (i * 3 + c) ≤ F (i * 3) * F (i * 3) + F (i * 3 + 1) * F (i * 3 + 1) + F (i * 3 + 2) * F (i * 3 + 2) := by
    have : c = 0 ∨ c = 1 ∨ c = 2 := by omega
    rcases this with rfl | rfl | rfl
    · rw [Nat.add_zero]; omega
    · omega
    · omega
  rw [e]
  refine ⟨luI_ge (by omega) key, luI_ge (by omega) ?_⟩
  rw [Int.neg_mul_neg]
  exact key
theorem sm3 {F : Nat → Int} {k i : Nat} (h : ∀ j, j < k * 3 → SmN (F j)) (hi : i < k) : SmN (F (i * 3)) ∧ SmN (F (i * 3 + 1)) ∧ SmN (F (i * 3 + 2)) := ⟨h _ (by omega), h _ (by omega), h _ (by omega)⟩
theorem farI_bd {F : Nat → Int} : ∀ {k : Nat}, (∀ j, j < k * 3 → SmN (F j)) → 0 ≤ farI F k ∧ farI F k ≤ 549755813888
  | 0, _ => by simp [farI]
  | k + 1, h => by
    have ih := farI_bd (F := F) (k := k) fun j hj => h j (by omega)
    have := lenF_sum (sm3 h (show k < k + 1 by omega))
    unfold farI
    omega
theorem farI_is {F : Nat → Int} : ∀ {k : Nat}, 0 < k → (∀ j, j < k * 3 → SmN (F j)) → ∃ i, i < k ∧ lenF F i = farI F k
  | 0, h, _ => by omega
  | 1, _, h => ⟨0, by omega, by
    have := (lenF_sum (sm3 h (show 0 < 1 by omega))).1
    unfold farI farI
    omega⟩
  | k + 2, _, h => by
    obtain ⟨i, hi, e⟩ := farI_is (F := F) (k := k + 1) (by omega) fun j hj => h j (by omega)
    by_cases hm : lenF F (k + 1) ≤ farI F (k + 1)
    · exact ⟨i, by omega, by rw [farI, Int.max_eq_left hm]; exact e⟩
    · exact ⟨k + 1, by omega, by rw [farI, Int.max_eq_right (by omega)]⟩
/-- no half is above the reach -/
theorem mx_far {F : Nat → Int} {c : Nat} (hc : c < 3) : ∀ {k : Nat}, (∀ j, j < k * 3 → SmN (F j)) → mxI F c k ≤ farI F k
  | 0, _ => by simp [farI, mxI]
  | k + 1, h => by
    have ih := mx_far (F := F) hc (k := k) fun j hj => h j (by omega)
    have := lenF_ge hc (sm3 h (show k < k + 1 by omega))
    unfold farI mxI
    omega
/-- a shape with a greater radius -/
theorem ck_more {kd r x y z e : Int} {n : Nat} {f : Nat → Int} (h : ckI kd r x y z n f = 0) (he : 0 ≤ e) : ckI kd (r + e) x y z n f = if r + e ≤ 274877906944 then 0 else 2 := by
  unfold ckI at h ⊢
  by_cases k4 : kd = 4
  · rw [if_pos k4] at h ⊢
    split at h
    · rename_i hm
      split at h
      · rename_i hf
        obtain ⟨h1, h2, h3, h4, h5, h6⟩ := hm
        by_cases k : r + e ≤ 274877906944
        · rw [if_pos ⟨by omega, h2, h3, h4, k, h6⟩, if_pos hf, if_pos k]
        · rw [if_neg fun q => k q.2.2.2.2.1, if_neg k]
      · omega
    · omega
  · rw [if_neg k4] at h ⊢
    split at h
    · rename_i hm
      obtain ⟨⟨hk, h1, h2⟩, h3⟩ := hm
      by_cases k : r + e ≤ 274877906944
      · have hk2 : MayN kd (r + e) x y z := by
          unfold MayN May1 May2 May3 at hk ⊢
          omega
        rw [if_pos ⟨⟨hk2, k, h2⟩, h3⟩, if_pos k]
      · rw [if_neg fun q => k q.1.2.1, if_neg k]
    · omega
end Go.X
