/- Package wide: quotients of sizes. -/
import Derived.Test.YticlgpdmelhbhaaWF
namespace Go.X
open Go.Proofs
attribute [local irreducible] Good

theorem blen_lt {z : Int} (h : 0 ≤ z) : z < 2 ^ (blen z).toNat := by
  obtain ⟨n, rfl⟩ := Int.eq_ofNat_of_zero_le h
  have := (bitLen_spec n).1
  unfold blen
  simp only [Int.toNat_natCast]
  exact_mod_cast this
theorem blen_ge {z : Int} (h : 0 < z) : 0 < blen z ∧ 2 ^ ((blen z).toNat - 1) ≤ z := by
  obtain ⟨n, rfl⟩ := Int.eq_ofNat_of_zero_le (Int.le_of_lt h)
  have hn : n ≠ 0 := by omega
  have := (bitLen_spec n).2 hn
  unfold blen
  simp only [Int.toNat_natCast]
  refine ⟨?_, by exact_mod_cast this⟩
  unfold bitLen
  rw [if_neg hn]; omega
theorem K5_pow : 2 * K5 = 2 ^ 512 := by
  rw [show 512 = 64 * 8 from rfl, Int.pow_mul]
  unfold K5
  rfl
theorem blen_le_pow {z : Int} (n : Nat) (h : z < 2 ^ n) : blen z ≤ n := by
  unfold blen bitLen
  split
  · omega
  · rename_i hz
    have : z.toNat < 2 ^ n := by
      have h2 : (z.toNat : Int) < ((2 ^ n : Nat) : Int) := by
        have e : ((2 ^ n : Nat) : Int) = 2 ^ n := by simp
        rw [e]
        by_cases h0 : 0 ≤ z
        · rw [Int.toNat_of_nonneg h0]; exact h
        · have : (0 : Int) < 2 ^ n := Int.pow_pos (by decide)
          omega
      exact Int.ofNat_lt.1 h2
    have := (Nat.log2_lt hz).2 this
    omega
theorem blen_le {z : Int} (h : z < 2 * K5) : blen z ≤ 512 := by
  rw [K5_pow] at h
  exact blen_le_pow 512 h
theorem blen_nonneg (z : Int) : 0 ≤ blen z := by unfold blen; omega
theorem pow_le {a b : Nat} (h : a ≤ b) : (2 : Int) ^ a ≤ 2 ^ b := by
  have := Nat.pow_le_pow_right (show 0 < 2 from by decide) h
  exact_mod_cast this

noncomputable def partsS : List AV → PR
  | [.arr .u64 8 f, .arr .u64 8 g] => if R8 f ∧ R8 g ∧ 0 < uval g then .val (.tup [W (uval f / uval g), W (uval f % uval g)]) else .fail
  | _ => .fail
@[simp] theorem partsS_val {f g : Nat → Int} (h : R8 f ∧ R8 g ∧ 0 < uval g) : partsS [.arr .u64 8 f, .arr .u64 8 g] = .val (.tup [W (uval f / uval g), W (uval f % uval g)]) := if_pos h

theorem eqvU {f : Nat → Int} (h : R8 f) {z : Int} (hz : uval f = z) : Eqv (.arr .u64 8 f) (W z) := eqvW h ⟨0, by omega⟩

theorem parts_ok : SumOk Try.prog 53 (pureS partsS) := by
  refine sum_fn (L := (fun i => if i = 3 then some (.orders [[0, 1, 2, 3], [1, 0, 2, 3], [0, 2, 1, 3]]) else if i = 9 then some (.quiet 4) else if i = 10 then some (.quiet 9) else if i = 14 then some (.orders [[0, 1, 2, 3], [1, 0, 2, 3], [0, 2, 1, 3]]) else none)) (n := 514) (S := (stOf [(61, pureS lengthS), (64, pureS leftS), (60, pureS aboveS), (54, pureS plusS), (55, pureS notS), (65, pureS halfS)])) drawS Try.T_ok (stOf_ok (by simp [length_ok, left_ok, above_ok, plus_ok, not_ok, half_ok])) Try.func53 rfl (by kernel_rfl) (by kernel_rfl) ?_
    (by intro args v h; unfold partsS at h; split at h <;> (try split at h) <;> simp at h)
  intro args v h
  unfold partsS at h
  split at h
  · rename_i f g
    split at h
    · rename_i hc
      obtain ⟨hf, hg, hpos⟩ := hc
      cases h
      refine ⟨by simp, by simp, by simp, ?_⟩
      have uf := uval_bound hf
      have ug := uval_bound hg
      have lf := blen_le uf.2.1; have lg := blen_le ug.2.1
      have mf := blen_nonneg (uval f); have mg := blen_nonneg (uval g)
      have bf := blen_lt uf.1
      have bg := blen_ge hpos
      have bg1 := blen_lt ug.1
      have w0 : IntKind.i64.wrap (blen (uval f) - blen (uval g)) = blen (uval f) - blen (uval g) := wrap_i64_in (by omega) (by omega)
      by_cases hn : blen (uval f) - blen (uval g) < 0
      · -- the size is less
        have hlt : uval f < uval g := by
          have := pow_le (a := (blen (uval f)).toNat) (b := (blen (uval g)).toNat - 1) (by omega)
          omega
        simp [-loopA_succ, Try.f53, hf, hg, w0, hn]
        rw [Int.ediv_eq_zero_of_lt uf.1 hlt, Int.emod_eq_of_lt uf.1 hlt]
        exact eqv_tup2 (eqvW_of R8_zero sval_zero) (eqvU hf rfl)
      · obtain ⟨n, hnn⟩ : ∃ n : Nat, blen (uval f) - blen (uval g) = n := ⟨(blen (uval f) - blen (uval g)).toNat, by omega⟩
        have hn5 : n < 512 := by omega
        have hn6 : (n : Int) < 512 := by omega
        have hp : (0 : Int) < 2 ^ n := Int.pow_pos (by decide)
        -- what is shifted fits
        have h1 : uval g * 2 ^ n < 2 * K5 := by
          have e : uval g * 2 ^ n < 2 ^ (blen (uval g)).toNat * 2 ^ n := Int.mul_lt_mul_of_pos_right bg1 hp
          rw [← Int.pow_add] at e
          have := pow_le (a := (blen (uval g)).toNat + n) (b := 512) (by omega)
          rw [K5_pow]; omega
        have h2 : uval f < uval g * 2 ^ (n + 1) := by
          have e : 2 ^ ((blen (uval g)).toNat - 1) * 2 ^ (n + 1) ≤ uval g * 2 ^ (n + 1) := Int.mul_le_mul_of_nonneg_right bg.2 (Int.le_of_lt (Int.pow_pos (by decide)))
          rw [← Int.pow_add, show (blen (uval g)).toNat - 1 + (n + 1) = (blen (uval f)).toNat from by omega] at e
          omega
        have hs : uval (limb (uval g * 2 ^ n)) = uval g * 2 ^ n := by
          rw [uval_limb, Int.emod_eq_of_lt (Int.mul_nonneg ug.1 (Int.le_of_lt hp)) h1]
        have hstep : ∀ j, n + 1 = j + 1 → uval (limb (uval g * 2 ^ n)) = uval g * 2 ^ j := by
          intro j hj
          rw [hs, show j = n from by omega]
        have hd0 : Div f g (fun _ => 0) f (limb (uval g * 2 ^ n)) (n + 1) := ⟨R8_zero, hf, R8_limb _, h2, by rw [zero_val]; omega, ⟨0, by rw [zero_val]; omega⟩, hstep⟩
        rw [hnn] at w0 hn
        have hn' : ¬ (n : Int) < 0 := hn
        simp [-loopA_succ, Try.f53, hf, hg, w0, hnn, hn', hn6]
        simp only [good_bind, good_unblock]
        refine parts_loop (k0 := n + 1) (by omega) hd0 (fun ts q r s old hdiv hfit => ?_) rfl ?_
        · obtain ⟨l, rfl⟩ := fits_of hfit 0
          have hsm := hdiv.small
          have hsum := hdiv.sum
          rw [Int.pow_zero, Int.mul_one] at hsm
          have hr0 := (uval_bound hdiv.hr).1
          have e1 : uval f / uval g = uval q := by
            rw [← hsum, Int.add_comm, Int.add_mul_ediv_right _ _ (by omega), Int.ediv_eq_zero_of_lt hr0 hsm]; omega
          have e2 : uval f % uval g = uval r := by
            rw [← hsum, Int.add_comm, Int.add_mul_emod_self_right, Int.emod_eq_of_lt hr0 hsm]
          simp
          rw [e1, e2]
          exact eqv_tup2 (eqvU hdiv.hq rfl) (eqvU hdiv.hr rfl)
        · simp
    · simp at h
  · simp at h

end Go.X
