/- a is q times b and what is left, which has the sign of b and is nearer to 0; Shr is Div by a power of two. -/
import Derived.Test.YticlgpdmelhbhaaZ8
import Derived.Test.YticlgpdmelhbhaaXR
namespace Go.X
open Go.Proofs
attribute [local irreducible] Good
set_option maxRecDepth 100000

noncomputable def lawLeftS : List AV → PR
  | [.arr .u64 8 f, .arr .u64 8 g, .int .i64 c] => if R8 f ∧ R8 g ∧ (-9223372036854775808 ≤ c ∧ c < 9223372036854775808) then .val (.bool true) else .fail
  | _ => .fail

set_option maxHeartbeats 40000000 in
theorem lawLeft_ok : SumOk Try.prog 13 (pureS lawLeftS) := by
  refine sum_fn (L := fun _ => none) (n := 1) (S := stOf [(19, pureS divS), (16, pureS mulS), (32, pureS addS), (26, pureS signS), (28, pureS cmpS), (25, pureS ofS), (37, pureS shlS), (39, pureS shrS), (18, pureS awakeS)]) drawS Try.T_ok
    (stOf_ok (by simp [div_ok, mul_ok, add_ok, sign_ok, cmp_ok, of_ok, shl_ok, shr_ok, awake_ok])) Try.func13 rfl (by kernel_rfl) (by kernel_rfl) ?_
    (by intro args v h; unfold lawLeftS at h; split at h <;> (try split at h) <;> simp at h)
  intro args v h
  unfold lawLeftS at h
  split at h
  · rename_i f g c
    split at h
    · rename_i hc
      obtain ⟨hf, hg, hc⟩ := hc
      cases h
      refine ⟨by simp, by simp, by simp, ?_⟩
      have ra := sval_range hf; have rb := sval_range hg
      have s1 : sval (limb 1) = 1 := sval_small (by omega)
      have la : sval (limb (sval f)) = sval f := sval_limb ra
      have ia : InW (sval f) := ra
      have q1 := eqArr_iff (R8_limb (sval f)) hf
      -- the shift by n, and by 2^n
      have tail : ∀ h : ¬ (c < 0 ∨ 510 < c), InW (2 ^ c.toNat) ∧ quoV (sval f) (2 ^ c.toNat) = .tup [W (sval f / 2 ^ c.toNat), W (remI (sval f) (2 ^ c.toNat)), .bool true] ∧ min c 511 = c := by
        intro h
        have hp := pow_2_pos c.toNat
        have e : quoI (sval f) (2 ^ c.toNat) = sval f / 2 ^ c.toNat := if_pos hp
        exact ⟨InW_pow (by omega), quoV_fit (by omega) e rfl (InW_ediv ra hp), by omega⟩
      by_cases hok : sval g ≠ 0 ∧ InW (quoI (sval f) (sval g))
      · obtain ⟨hb, hi⟩ := hok
        obtain ⟨hs, hr⟩ := quoI_spec (sval f) hb
        have hV := quoV_fit hb rfl rfl hi
        have ir : InW (remI (sval f) (sval g)) := by unfold InW; omega
        have wi := sval_limb hi
        have wr := sval_limb ir
        rcases hr with ⟨hb0, hr0, hr1⟩ | ⟨hb0, hr0, hr1⟩
        · have c1 : sgnI (sval g) = 1 := by unfold sgnI; rw [if_neg (by omega), if_neg (by omega)]
          have c2 : ¬ IntKind.i64.wrap (sgnI (remI (sval f) (sval g))) < 0 := by
            rw [wrap_i64_in] <;> unfold sgnI <;> (repeat' split) <;> omega
          have c3 : ¬ 0 ≤ cmpI (remI (sval f) (sval g)) (sval g) := by unfold cmpI; rw [if_pos hr1]; decide
          by_cases e : InW (quoI (sval f) (sval g) * sval g)
          · have we := sval_limb e
            by_cases n1 : c < 0
            · simp [Try.f13, hf, hg, R8_limb, fitV, hV, wi, wr, e, we, ← hs, ia, q1, la, c1, c2, c3, n1]
            · by_cases n2 : 510 < c
              · simp [Try.f13, hf, hg, R8_limb, fitV, hV, wi, wr, e, we, ← hs, ia, q1, la, c1, c2, c3, n1, n2]
              · obtain ⟨t1, t2, t3⟩ := tail (by omega)
                simp [Try.f13, hf, hg, hc, R8_limb, fitV, shlV, hV, wi, wr, e, we, ← hs, ia, q1, la, c1, c2, c3, n1, n2, s1, t1, t2, t3, sval_limb t1, eqArr_iff]
          · by_cases n1 : c < 0
            · simp [Try.f13, hf, hg, R8_limb, fitV, hV, wi, wr, e, c1, c2, c3, n1]
            · by_cases n2 : 510 < c
              · simp [Try.f13, hf, hg, R8_limb, fitV, hV, wi, wr, e, c1, c2, c3, n1, n2]
              · obtain ⟨t1, t2, t3⟩ := tail (by omega)
                simp [Try.f13, hf, hg, hc, R8_limb, fitV, shlV, hV, wi, wr, e, c1, c2, c3, n1, n2, s1, t1, t2, t3, sval_limb t1, eqArr_iff]
        · have c1 : sgnI (sval g) = -1 := by unfold sgnI; rw [if_pos (by omega)]
          have c2 : ¬ IntKind.i64.wrap (- sgnI (remI (sval f) (sval g))) < 0 := by
            rw [wrap_i64_in] <;> unfold sgnI <;> (repeat' split) <;> omega
          have c3 : ¬ cmpI (remI (sval f) (sval g)) (sval g) ≤ 0 := by unfold cmpI; rw [if_neg (by omega), if_neg (by omega)]; decide
          by_cases e : InW (quoI (sval f) (sval g) * sval g)
          · have we := sval_limb e
            by_cases n1 : c < 0
            · simp [Try.f13, hf, hg, R8_limb, fitV, hV, wi, wr, e, we, ← hs, ia, q1, la, c1, c2, c3, n1]
            · by_cases n2 : 510 < c
              · simp [Try.f13, hf, hg, R8_limb, fitV, hV, wi, wr, e, we, ← hs, ia, q1, la, c1, c2, c3, n1, n2]
              · obtain ⟨t1, t2, t3⟩ := tail (by omega)
                simp [Try.f13, hf, hg, hc, R8_limb, fitV, shlV, hV, wi, wr, e, we, ← hs, ia, q1, la, c1, c2, c3, n1, n2, s1, t1, t2, t3, sval_limb t1, eqArr_iff]
          · by_cases n1 : c < 0
            · simp [Try.f13, hf, hg, R8_limb, fitV, hV, wi, wr, e, c1, c2, c3, n1]
            · by_cases n2 : 510 < c
              · simp [Try.f13, hf, hg, R8_limb, fitV, hV, wi, wr, e, c1, c2, c3, n1, n2]
              · obtain ⟨t1, t2, t3⟩ := tail (by omega)
                simp [Try.f13, hf, hg, hc, R8_limb, fitV, shlV, hV, wi, wr, e, c1, c2, c3, n1, n2, s1, t1, t2, t3, sval_limb t1, eqArr_iff]
      · have hV : quoV (sval f) (sval g) = .tup [W 0, W 0, .bool false] := if_neg hok
        by_cases n1 : c < 0
        · simp [Try.f13, hf, hg, hV, n1]
        · by_cases n2 : 510 < c
          · simp [Try.f13, hf, hg, hV, n1, n2]
          · obtain ⟨t1, t2, t3⟩ := tail (by omega)
            simp [Try.f13, hf, hg, hc, R8_limb, fitV, shlV, hV, n1, n2, s1, t1, t2, t3, sval_limb t1, eqArr_iff]
    · simp at h
  · simp at h

end Go.X
