/- Package wide: halves, shifts to the right. -/
import Derived.Test.YticlgpdmelhbhaaZ3
namespace Go.X
open Go.Proofs
attribute [local irreducible] Good
attribute [simp] Try.T_71

noncomputable def halfS : List AV → PR
  | [.arr .u64 8 f] => if R8 f then .val (.arr .u64 8 (halfF f)) else .fail
  | _ => .fail
theorem half_ok : SumOk Try.prog 65 (pureS halfS) := by
  refine sum_fn (L := fun i => if i = 6 then some (.quiet 10) else none) (n := 9) (S := stOf []) drawS Try.T_ok (stOf_ok (by simp)) Try.func65 rfl (by kernel_rfl) (by kernel_rfl) ?_
    (by intro args v h; unfold halfS at h; split at h <;> (try split at h) <;> simp at h)
  intro args v h
  unfold halfS at h
  split at h
  · rename_i f
    split at h
    · rename_i hf
      cases h
      refine ⟨by simp, by simp, by simp, ?_⟩
      have o : ∀ i j, i < 8 → j < 8 → bitsA .or .u64 (shrA .u64 (f i) 1) (shlA .u64 (f j) 63) = f i / 2 + f j % 2 * 9223372036854775808 := fun i j hi hj => or_half (hf i hi).1 (hf i hi).2 (hf j hj).1
      have s : ∀ i, i < 8 → shrA .u64 (f i) 1 = f i / 2 := fun i _ => by
        simp only [shrA, IntKind.bits]
        rw [Int.fdiv_eq_ediv_of_nonneg _ (by decide)]; rfl
      simp [Try.f65, upd]
      refine eqv_arr fun i hi => ?_
      rcases eight hi with rfl | rfl | rfl | rfl | rfl | rfl | rfl | rfl <;> first | (simp [upd, halfF, o]; done) | (simp [upd, halfF, s]; done)
    · simp at h
  · simp at h
@[simp] theorem halfS_val {f : Nat → Int} (h : R8 f) : halfS [.arr .u64 8 f] = .val (.arr .u64 8 (halfF f)) := if_pos h

/-- behind the last limb: the sign -/
def fillI (z : Int) : Int := if z < 0 then 18446744073709551615 else 0
/-- the limb at a place, or the sign's -/
noncomputable def shr1S : Sum := fun args env _ => match args with
  | [.int .i64 k, .ptr p 0, .ptr e 0] => match env p, env e with
    | some ⟨[.arr .u64 8 f], _⟩, some ⟨[.int .u64 c], _⟩ => if R8 f ∧ 0 ≤ k ∧ p ≠ e ∧ c = fillI (sval f) then .val (.int .u64 (limb (sval f) k.toNat)) [] [] else .fail
    | _, _ => .fail
  | _ => .fail
theorem limb_at {f : Nat → Int} (hf : R8 f) {k : Nat} : limb (sval f) k = if k < 8 then f k else fillI (sval f) := by
  split
  · rename_i h; exact (limb_sval hf k h).symm
  · exact limb_high (sval_bound hf).1 k (by omega)
theorem two_blk {m : List Blk} {a b : Blk} {n : Nat} {keep : List Nat} (h : n = 2) (hk : keep = []) (ha : refsL a.items = []) (hb : refsL b.items = []) (hm : m = [a, b]) : ∀ q, (q < n ∨ q ∈ keep) → ∀ c ∈ refsL (m.getD q default).items, c < n ∨ c ∈ keep := by
  subst h hk hm
  intro q hq c hc
  have : q = 0 ∨ q = 1 := by simp at hq; omega
  rcases this with rfl | rfl <;> simp [ha, hb] at hc
theorem shr1_ok : SumOk Try.prog 62 shr1S := by
  refine sum_mem (L := fun _ => none) (n := 1) (S := stOf []) drawS Try.T_ok (stOf_ok (by simp)) Try.func62 rfl (by kernel_rfl) (by kernel_rfl) ?_
  intro args env nxt h
  unfold shr1S at h ⊢
  split at h
  · rename_i k p e
    split at h
    · rename_i f t c t' hp he
      split at h
      · rename_i hc
        obtain ⟨hf, h0, hne, hcc⟩ := hc
        subst hcc
        refine ⟨[.int .i64 k, .ptr 0 0, .ptr 1 0], [p, e], [⟨[.arr .u64 8 f], t⟩, ⟨[.int .u64 (fillI (sval f))], t'⟩], ⟨by simp [renL, AV.ren], rfl, by simp [hne], by simp, ?_, ?_⟩, ?_⟩
        · intro i hi
          have : i = 0 ∨ i = 1 := by simp at hi; omega
          rcases this with rfl | rfl <;> simp [hp, he, renL, AV.ren]
        · intro i hi
          have : i = 0 ∨ i = 1 := by simp at hi; omega
          rcases this with rfl | rfl <;> simp
        · have e1 : limb (sval f) k.toNat = if k.toNat < 8 then f k.toNat else fillI (sval f) := limb_at hf
          by_cases hk : k < 8
          · have hk' : k.toNat < 8 := by omega
            simp [Try.f62, hk, h0, hf, hne]
            exact ⟨[], none, ⟨by simp [upOf, AV.ren, e1, hk'], by simp, by simp, by simp, by simp, by simp, by simp, two_blk rfl rfl rfl rfl rfl, by simp⟩⟩
          · have hk' : ¬ k.toNat < 8 := by omega
            simp [Try.f62, hk, h0, hf, hne]
            exact ⟨[], none, ⟨by simp [upOf, AV.ren, e1, hk'], by simp, by simp, by simp, by simp, by simp, by simp, two_blk rfl rfl rfl rfl rfl, by simp⟩⟩
      · simp at h
    · simp at h
  · simp at h

theorem or_shift {x y : Int} (hx : 0 ≤ x) (hx1 : x < 18446744073709551616) {r : Nat} (h0 : 0 < r) (h1 : r < 64) : bitsA .or .u64 (shrA .u64 x r) (shlA .u64 y (64 - r)) = x / 2 ^ r + 2 ^ (64 - r) * (y % 2 ^ r) := by
  have hp : (0 : Int) < 2 ^ r := Int.pow_pos (by decide)
  have hq : (0 : Int) < 2 ^ (64 - r) := Int.pow_pos (by decide)
  have e64 : (18446744073709551616 : Int) = 2 ^ r * 2 ^ (64 - r) := by
    rw [← Int.pow_add, show r + (64 - r) = 64 from by omega]; rfl
  have e1 : shrA .u64 x r = x / 2 ^ r := by
    simp only [shrA, IntKind.bits]
    rw [show min r 64 = r from by omega, Int.fdiv_eq_ediv_of_nonneg _ (Int.le_of_lt hp)]
  have e2 : shlA .u64 y (64 - r) = 2 ^ (64 - r) * (y % 2 ^ r) := by
    simp only [shlA, IntKind.bits, wrap_u64_mod]
    rw [show min (64 - r) 64 = 64 - r from by omega, e64, Int.mul_comm y, Int.mul_comm (2 ^ r), Int.mul_emod_mul_of_pos _ _ hq]
  have b1 : x / 2 ^ r < 2 ^ (64 - r) := by
    apply Int.ediv_lt_of_lt_mul hp
    rw [Int.mul_comm, ← e64]; exact hx1
  have b2 : y % 2 ^ r < 2 ^ r := Int.emod_lt_of_pos _ hp
  have b3 : 0 ≤ y % 2 ^ r := Int.emod_nonneg _ (by omega)
  have b4 : 0 ≤ x / 2 ^ r := Int.ediv_nonneg hx (by omega)
  rw [e1, e2]
  refine or_add (64 - r) (y % 2 ^ r) b4 b1 b3 rfl ?_
  have : 2 ^ (64 - r) * (y % 2 ^ r) ≤ 2 ^ (64 - r) * (2 ^ r - 1) := Int.mul_le_mul_of_nonneg_left (by omega) (Int.le_of_lt hq)
  have e3 : (2 : Int) ^ (64 - r) * (2 ^ r - 1) = 18446744073709551616 - 2 ^ (64 - r) := by rw [e64]; grind
  omega

theorem div_pow (z : Int) (q r : Nat) : z / 18446744073709551616 ^ q / 2 ^ r = z / 2 ^ (64 * q + r) := by
  rw [Int.ediv_ediv_of_nonneg (Int.pow_nonneg (by decide)), Int.pow_add, Int.pow_mul]
  rfl

theorem div_InW {z : Int} (h : InW z) (n : Nat) : InW (z / 2 ^ n) := by
  have hp : (0 : Int) < 2 ^ n := Int.pow_pos (by decide)
  obtain ⟨h1, h2⟩ := h
  have hK := K5_pos
  constructor
  · rw [Int.le_ediv_iff_mul_le hp]
    have : -K5 * 2 ^ n ≤ -K5 * 1 := Int.mul_le_mul_of_nonpos_left (by omega) (by omega)
    omega
  · by_cases hz : z < 0
    · have := Int.ediv_neg_of_neg_of_pos hz hp
      omega
    · have : z / 2 ^ n ≤ z := Int.ediv_le_self _ (by omega)
      omega

@[simp] theorem shr1S_app {k : Int} {p e : Nat} {env : Nat → Option Blk} {nxt : Nat} : shr1S [.int .i64 k, .ptr p 0, .ptr e 0] env nxt = match env p, env e with
    | some ⟨[.arr .u64 8 f], _⟩, some ⟨[.int .u64 c], _⟩ => if R8 f ∧ 0 ≤ k ∧ p ≠ e ∧ c = fillI (sval f) then .val (.int .u64 (limb (sval f) k.toNat)) [] [] else .fail
    | _, _ => .fail := rfl

/-- by a power of two, rounded down -/
noncomputable def shrS : List AV → PR
  | [.arr .u64 8 f, .int .i64 n] => if R8 f ∧ n < 9223372036854775808 then .val (W (sval f / 2 ^ (min n 511).toNat)) else .fail
  | _ => .fail
@[simp] theorem shrS_val {f : Nat → Int} {n : Int} (h : R8 f ∧ n < 9223372036854775808) : shrS [.arr .u64 8 f, .int .i64 n] = .val (W (sval f / 2 ^ (min n 511).toNat)) := if_pos h

theorem shr_fill {f : Nat → Int} (hf : R8 f) : IntKind.u64.wrap (shrA .i64 (IntKind.i64.wrap (f 7)) 63) = fillI (sval f) := by
  unfold fillI
  have h7 := hf 7 (by omega)
  have e : shrA .i64 (IntKind.i64.wrap (f 7)) 63 = IntKind.i64.wrap (f 7) / 9223372036854775808 := by
    simp only [shrA, IntKind.bits]
    rw [Int.fdiv_eq_ediv_of_nonneg _ (by decide)]; rfl
  have hn := neg_sval hf
  unfold negF at hn
  rw [e, wrap_u64_mod, IntKind.wrap_i64]
  by_cases hs : sval f < 0
  · rw [if_pos hs]
    have : 9223372036854775808 ≤ f 7 := by simpa [hs] using hn
    omega
  · rw [if_neg hs]
    have : ¬ 9223372036854775808 ≤ f 7 := by simpa [hs] using hn
    omega

end Go.X
