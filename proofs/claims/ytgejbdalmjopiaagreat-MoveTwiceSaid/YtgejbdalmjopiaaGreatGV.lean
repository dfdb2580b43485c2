/- Quaternions; poses. -/
import Derived.Test.YtgejbdalmjopiaaGreatGU
import Derived.Test.YtgejbdalmjopiaaGreatGF

section
namespace Go.X
theorem rat_bd {x s : Int} (hs : 0 < s) : (0 ≤ x → 0 ≤ ratI x s ∧ ratI x s * ratI x s * s ≤ x * x * 18446744073709551616 ∧ x * x * 18446744073709551616 < (ratI x s + 1) * (ratI x s + 1) * s) ∧
    (x < 0 → ratI x s ≤ -1 ∧ x * x * 18446744073709551616 ≤ ratI x s * ratI x s * s ∧ (ratI x s + 1) * (ratI x s + 1) * s < x * x * 18446744073709551616) := by
  have hn : 0 ≤ x * x * 18446744073709551616 := Int.mul_nonneg (sq_nonneg _) (by decide)
  have hpos : x < 0 → 0 < x * x * 18446744073709551616 := fun h => Int.mul_pos (Int.mul_pos_of_neg_of_neg h h) (by decide)
  unfold ratI
  generalize x * x * 18446744073709551616 = n at *
  obtain ⟨h1, -⟩ := quoI_spec n (show s ≠ 0 by omega)
  obtain ⟨h2, h3⟩ := remI_bd (a := n) hs
  obtain ⟨r0, r1, r2⟩ := rootI_is (quoI_nonneg hn hs)
  generalize remI n s = m at *
  generalize quoI n s = q at *
  generalize rootI q = r at *
  have hs' := Int.le_of_lt hs
  have up : (q + 1) * s ≤ (r + 1) * (r + 1) * s := Int.mul_le_mul_of_nonneg_right (by omega) hs'
  have lo : r * r * s ≤ q * s := Int.mul_le_mul_of_nonneg_right r1 hs'
  rw [Int.add_mul] at up
  refine ⟨fun hx => ?_, fun hx => ?_⟩
  · rw [if_neg (by omega)]
    exact ⟨r0, by omega, by omega⟩
  · rw [if_pos hx]
    have hn0 := hpos hx
    split
    · rename_i hc
      have e1 : -(r + 1) * -(r + 1) = (r + 1) * (r + 1) := Int.neg_mul_neg _ _
      have e2 : (-(r + 1) + 1) * (-(r + 1) + 1) = r * r := by grind
      rw [e1, e2]
      refine ⟨by omega, by omega, ?_⟩
      by_cases hq : r * r = q
      · have : m ≠ 0 := hc.resolve_right fun h => h hq
        omega
      · have := Int.mul_le_mul_of_nonneg_right (show r * r + 1 ≤ q by omega) hs'
        rw [Int.add_mul] at this
        omega
    · rename_i hc
      have hm : m = 0 := Classical.byContradiction fun h => hc (.inl h)
      have hq : r * r = q := Classical.byContradiction fun h => hc (.inr h)
      have e1 : -r * -r = r * r := Int.neg_mul_neg _ _
      have e2 : (-r + 1) * (-r + 1) = r * r - (2 * r - 1) := by grind
      have hr1 : 1 ≤ r := by
        rcases Int.lt_or_le r 1 with h | h
        · have : r = 0 := by omega
          subst this
          rw [← hq] at h1
          simp at h1
          omega
        · exact h
      have := Int.mul_pos (show 0 < 2 * r - 1 by omega) hs
      rw [e1, e2, Int.sub_mul, hq]
      refine ⟨by omega, by omega, by omega⟩
theorem rat_near {x s : Int} (hs : 0 < s) (hx : x * x ≤ s) : ∃ m : Int, 0 ≤ m ∧ m ≤ 4294967296 ∧ (ratI x s = m ∨ ratI x s = -m) ∧ (ratI x s < 0 ↔ x < 0) ∧
    ratI x s * ratI x s * s ≤ x * x * 18446744073709551616 + (2 * m + 1) * s ∧ x * x * 18446744073709551616 ≤ ratI x s * ratI x s * s + (2 * m + 1) * s := by
  obtain ⟨h1, h2⟩ := rat_bd (x := x) hs
  have hs' := Int.le_of_lt hs
  have hle : x * x * 18446744073709551616 ≤ s * 18446744073709551616 := Int.mul_le_mul_of_nonneg_right hx (by decide)
  have small : ∀ u : Int, 0 ≤ u → u * u * s ≤ s * 18446744073709551616 → u ≤ 4294967296 := by
    intro u hu h
    rcases Int.lt_or_le 4294967296 u with h' | h'
    · exfalso
      have h3 : (18446744073709551616 + 1) * s ≤ u * u * s := Int.mul_le_mul_of_nonneg_right (by have := Int.mul_le_mul (show (4294967297 : Int) ≤ u by omega) (show (4294967297 : Int) ≤ u by omega) (by decide) hu; omega) hs'
      rw [Int.add_mul] at h3
      omega
    · exact h'
  rcases Int.lt_or_le x 0 with h | h
  · obtain ⟨k1, k2, k3⟩ := h2 h
    generalize ratI x s = u at *
    have e : (u + 1) * (u + 1) = u * u - (2 * -u - 1) := by grind
    have h4 : -u - 1 < 4294967296 := by
      rcases Int.lt_or_le (-u - 1) 4294967296 with h' | h'
      · exact h'
      · exfalso
        have e2 : (u + 1) * (u + 1) = (-u - 1) * (-u - 1) := by grind
        rw [e2] at k3
        have h3 : 18446744073709551616 * s ≤ (-u - 1) * (-u - 1) * s := Int.mul_le_mul_of_nonneg_right (by have := Int.mul_le_mul h' h' (by decide) (by omega); omega) hs'
        omega
    refine ⟨-u, by omega, by omega, .inr (by omega), ⟨fun _ => h, fun _ => by omega⟩, ?_, ?_⟩
    · rw [e, Int.sub_mul] at k3
      have := Int.mul_le_mul_of_nonneg_right (show 2 * -u - 1 ≤ 2 * -u + 1 by omega) hs'
      omega
    · have := Int.mul_nonneg (show 0 ≤ 2 * -u + 1 by omega) hs'
      omega
  · obtain ⟨k1, k2, k3⟩ := h1 h
    generalize ratI x s = u at *
    have e : (u + 1) * (u + 1) = u * u + (2 * u + 1) := by grind
    have hu := small u k1 (by omega)
    have := Int.mul_nonneg (show 0 ≤ 2 * u + 1 by omega) hs'
    refine ⟨u, k1, hu, .inl rfl, ⟨fun h' => by omega, fun h' => by omega⟩, by omega, ?_⟩
    rw [e, Int.add_mul] at k3
    omega
theorem le_of_sq {m c k : Int} (h : m * m ≤ k) (hc : 0 ≤ c) (hk : k < (c + 1) * (c + 1)) : m ≤ c := by
  rcases Int.lt_or_le c m with h' | h'
  · exfalso
    have := Int.mul_le_mul (show c + 1 ≤ m by omega) (show c + 1 ≤ m by omega) (by omega) (by omega)
    omega
  · exact h'
theorem unit_near {a b c d : Int} (h : 0 < sq4 a b c d) : ∃ u v w z : Int, ratI a (sq4 a b c d) = u ∧ ratI b (sq4 a b c d) = v ∧ ratI c (sq4 a b c d) = w ∧ ratI d (sq4 a b c d) = z ∧
    (-4294967296 ≤ u ∧ u ≤ 4294967296) ∧ (-4294967296 ≤ v ∧ v ≤ 4294967296) ∧ (-4294967296 ≤ w ∧ w ≤ 4294967296) ∧ (-4294967296 ≤ z ∧ z ≤ 4294967296) ∧ (u < 0 ↔ a < 0) ∧ (v < 0 ↔ b < 0) ∧ (w < 0 ↔ c < 0) ∧ (z < 0 ↔ d < 0) ∧
    18446744073709551616 - 17179869252 ≤ sq4 u v w z ∧ sq4 u v w z ≤ 18446744073709551616 + 17179869252 := by
  have qa := sq_nonneg a
  have qb := sq_nonneg b
  have qc := sq_nonneg c
  have qd := sq_nonneg d
  obtain ⟨s, hs⟩ : ∃ s, sq4 a b c d = s := ⟨_, rfl⟩
  have es := hs
  unfold sq4 at es
  rw [hs] at h ⊢
  obtain ⟨m1, a1, a2, a3, a4, a5, a6⟩ := rat_near h (show a * a ≤ s by omega)
  obtain ⟨m2, b1, b2, b3, b4, b5, b6⟩ := rat_near h (show b * b ≤ s by omega)
  obtain ⟨m3, c1, c2, c3, c4, c5, c6⟩ := rat_near h (show c * c ≤ s by omega)
  obtain ⟨m4, d1, d2, d3, d4, d5, d6⟩ := rat_near h (show d * d ≤ s by omega)
  generalize ratI a s = u at *
  generalize ratI b s = v at *
  generalize ratI c s = w at *
  generalize ratI d s = z at *
  refine ⟨u, v, w, z, rfl, rfl, rfl, rfl, by omega, by omega, by omega, by omega, a4, b4, c4, d4, ?_⟩
  have sq : ∀ {u m : Int}, (u = m ∨ u = -m) → u * u = m * m := by
    rintro u m (rfl | rfl)
    · rfl
    · exact Int.neg_mul_neg _ _
  have tot : sq4 u v w z = m1 * m1 + m2 * m2 + m3 * m3 + m4 * m4 := by
    unfold sq4; rw [sq a3, sq b3, sq c3, sq d3]
  obtain ⟨S, hS⟩ : ∃ S, sq4 u v w z = S := ⟨_, rfl⟩
  have e1 : S * s = u * u * s + v * v * s + w * w * s + z * z * s := by rw [← hS]; unfold sq4; grind
  have e2 : a * a * 18446744073709551616 + b * b * 18446744073709551616 + c * c * 18446744073709551616 + d * d * 18446744073709551616 = 18446744073709551616 * s := by rw [← es]; grind
  have e3 : (2 * m1 + 1) * s + (2 * m2 + 1) * s + (2 * m3 + 1) * s + (2 * m4 + 1) * s = (2 * (m1 + m2 + m3 + m4) + 4) * s := by grind
  have up : S ≤ 18446744073709551616 + (2 * (m1 + m2 + m3 + m4) + 4) := by
    refine Int.le_of_mul_le_mul_right (a := s) ?_ h
    rw [Int.add_mul]; omega
  have lo : 18446744073709551616 ≤ S + (2 * (m1 + m2 + m3 + m4) + 4) := by
    refine Int.le_of_mul_le_mul_right (a := s) ?_ h
    rw [Int.add_mul]; omega
  have cs : (m1 + m2 + m3 + m4) * (m1 + m2 + m3 + m4) ≤ 4 * S := by
    have q1 := sq_nonneg (m1 - m2)
    have q2 := sq_nonneg (m1 - m3)
    have q3 := sq_nonneg (m1 - m4)
    have q4 := sq_nonneg (m2 - m3)
    have q5 := sq_nonneg (m2 - m4)
    have q6 := sq_nonneg (m3 - m4)
    rw [← hS, tot]
    grind
  have hM : m1 + m2 + m3 + m4 ≤ 8589934624 := le_of_sq cs (by decide) (by omega)
  rw [hS]
  omega
end Go.X
end

section
namespace Go.X
open Go.Proofs
attribute [local irreducible] Good
def NearOne (z w : Int) : Prop := z - 18446744073709551616 ≤ w ∧ 18446744073709551616 - z ≤ w
instance (z w : Int) : Decidable (NearOne z w) := inferInstanceAs (Decidable (_ ∧ _))
end Go.X
end

section
namespace Go.X
open Go.Proofs
attribute [local irreducible] Good
end Go.X
end

section
namespace Go.X
end Go.X
end

section
namespace Go.X
end Go.X
end

section
namespace Go.X
open Go.Proofs
attribute [local irreducible] Good
def betw (a l h : Int) : Int := if a < l then l else if h < a then h else a
noncomputable def fclampS : List AV → PR
  | [.int .i64 a, .int .i64 l, .int .i64 k] => open Classical in if l ≤ k then .val (.int .i64 (betw a l k)) else .fail
  | _ => .fail
@[simp] theorem fclampS_val {a l k : Int} (h : l ≤ k) : fclampS [.int .i64 a, .int .i64 l, .int .i64 k] = .val (.int .i64 (betw a l k)) := if_pos h
theorem fclamp_ok : SumOk Tryz.prog 83 (pureS fclampS) := by
  refine sum_fn (L := fun _ => none) (n := 1) (S := stOf []) drawS Tryz.T_ok (stOf_ok (by simp)) Tryz.func83 rfl (by kernel_rfl) (by kernel_rfl) ?_
    (by intro args v h; unfold fclampS at h; split at h <;> (try split at h) <;> simp at h)
  intro args v h
  unfold fclampS at h
  split at h
  · rename_i a l k
    split at h
    · rename_i hc
      have e0 := hc
      cases h
      refine ⟨by simp, by simp, by simp, ?_⟩
      by_cases h1 : a < l
      · simp [Tryz.f83, betw, h1]
      · by_cases h2 : k < a
        · simp [Tryz.f83, betw, h1, h2]
        · simp [Tryz.f83, betw, h1, h2]
    · simp at h
  · simp at h
noncomputable def r2clampS : List AV → PR
  | [.int .i64 a, .int .i64 l, .int .i64 k] => open Classical in if l ≤ k then .val (.int .i64 (betw a l k)) else .fail
  | _ => .fail
@[simp] theorem r2clampS_val {a l k : Int} (h : l ≤ k) : r2clampS [.int .i64 a, .int .i64 l, .int .i64 k] = .val (.int .i64 (betw a l k)) := if_pos h
theorem r2clamp_ok : SumOk Tryz.prog 72 (pureS r2clampS) := by
  refine sum_fn (L := fun _ => none) (n := 1) (S := stOf []) drawS Tryz.T_ok (stOf_ok (by simp)) Tryz.func72 rfl (by kernel_rfl) (by kernel_rfl) ?_
    (by intro args v h; unfold r2clampS at h; split at h <;> (try split at h) <;> simp at h)
  intro args v h
  unfold r2clampS at h
  split at h
  · rename_i a l k
    split at h
    · rename_i hc
      have e0 := hc
      cases h
      refine ⟨by simp, by simp, by simp, ?_⟩
      by_cases h1 : a < l
      · simp [Tryz.f72, betw, h1]
      · by_cases h2 : k < a
        · simp [Tryz.f72, betw, h1, h2]
        · simp [Tryz.f72, betw, h1, h2]
    · simp at h
  · simp at h
noncomputable def vsum2S : Sum := fun args env _ => match args with
  | [.slice b 0 2 _] => match env b with
    | some ⟨[.arr .u64 8 f, .arr .u64 8 g], _⟩ => open Classical in if R8 f ∧ R8 g ∧ InW (sval f + sval g) then .val (W (sval f + sval g)) [] [] else .fail
    | _ => .fail
  | _ => .fail
theorem vsum2_ok : SumOk Tryz.prog 80 vsum2S := by
  refine sum_read (L := fun _ => none) (n := 4) (S := stOf [(104, pureS addS)]) drawS Tryz.T_ok (stOf_ok (by simp [add_ok])) Tryz.func80 rfl (by kernel_rfl) (by kernel_rfl) ?_
  intro args env nxt h
  unfold vsum2S at h ⊢
  split at h
  · rename_i b c
    split at h
    · rename_i f g ty0 m0
      split at h
      · rename_i hc
        obtain ⟨hf, hg, e0⟩ := id hc
        refine ⟨_, _, _, W (sval f + sval g), laid1 [.slice 0 0 2 c] rfl (by simp) m0 rfl, by first | exact if_pos hc | (simp only [m0]; exact if_pos hc) | (simp [m0]; exact hc), by simp, by simp, ?_⟩
        have w1 : InW (sval f) := sval_range hf
        have w2 := sval_limb w1
        have w3 := sval_limb e0
        simp [Tryz.f80, hf, hg, e0, R8_limb, fitV, R8_zero, sval_zero, w1, w2]
      · simp at h
    · simp at h
  · simp at h
noncomputable def vmove1S : Sum := fun args env _ => match args with
  | [.int .i64 x, .int .i64 y, .ptr p 0] => match env p with
    | some ⟨[.int .i64 t], _⟩ => open Classical in if InI x ∧ InI y ∧ InI t then .val (.int .i64 (clampI ((x * 4294967296 + y * t) / 4294967296))) [] [] else .fail
    | _ => .fail
  | _ => .fail
theorem vmove1_ok : SumOk Tryz.prog 77 vmove1S := by
  refine sum_read (L := fun _ => none) (n := 1) (S := stOf [(79, pureS vrawS), (78, pureS shlS), (81, pureS vtimesS), (80, vsum2S), (58, pureS finS)]) drawS Tryz.T_ok (stOf_ok (by simp [vraw_ok, shl_ok, vtimes_ok, vsum2_ok, fin_ok])) Tryz.func77 rfl (by kernel_rfl) (by kernel_rfl) ?_
  intro args env nxt h
  unfold vmove1S at h ⊢
  split at h
  · rename_i x y p
    split at h
    · rename_i t ty0 m0
      split at h
      · rename_i hc
        obtain ⟨hx, hy, ht⟩ := id hc
        refine ⟨_, _, _, .int .i64 (clampI ((x * 4294967296 + y * t) / 4294967296)), laid1 [.int .i64 x, .int .i64 y, .ptr 0 0] rfl (by simp) m0 rfl, by first | exact if_pos hc | (simp only [m0]; exact if_pos hc) | (simp [m0]; exact hc), by simp, by simp, ?_⟩
        have s1 : Bd 95 (x * 4294967296) := by simpa using (Bd.of hx).shl 32
        have s2 := s1.w (by decide)
        have s3 : Bd 127 (x * 4294967296 + y * t) := (s1.mono (by decide)).add ((Bd.of hy).mul (Bd.of ht))
        have s4 := s3.w (by decide)
        have s5 := ((Bd.of hy).mul (Bd.of ht)).w (by decide)
        simp [Tryz.f77, hx, hy, ht, R8_limb, shlV, fitV, s2, sval_limb s2, s4, sval_limb s4, sval_limb s5, sval_limb (InI.w hx), vsum2S]
      · simp at h
    · simp at h
  · simp at h
noncomputable def veachMS : Sum := fun args env _ => match args with
  | [.agg [.int .i64 u, .int .i64 v, .int .i64 w], .agg [.int .i64 x, .int .i64 y, .int .i64 z], .fn 77 [.ptr p 0]] => match env p with
    | some ⟨[.int .i64 t], _⟩ => open Classical in if InI u ∧ InI v ∧ InI w ∧ InI x ∧ InI y ∧ InI z ∧ InI t then .val (.agg [.int .i64 (clampI ((u * 4294967296 + x * t) / 4294967296)), .int .i64 (clampI ((v * 4294967296 + y * t) / 4294967296)), .int .i64 (clampI ((w * 4294967296 + z * t) / 4294967296))]) [] [] else .fail
    | _ => .fail
  | _ => .fail
theorem veachM_ok : SumOk Tryz.prog 76 veachMS := by
  refine sum_read (L := fun i => if i = 1 then some (.quiet 19) else none) (n := 1) (S := stOf [(77, vmove1S)]) drawS Tryz.T_ok (stOf_ok (by simp [vmove1_ok])) Tryz.func76 rfl (by kernel_rfl) (by kernel_rfl) ?_
  intro args env nxt h
  unfold veachMS at h ⊢
  split at h
  · rename_i u v w x y z p
    split at h
    · rename_i t ty0 m0
      split at h
      · rename_i hc
        obtain ⟨hu, hv, hw, hx, hy, hz, ht⟩ := id hc
        refine ⟨_, _, _, .agg [.int .i64 (clampI ((u * 4294967296 + x * t) / 4294967296)), .int .i64 (clampI ((v * 4294967296 + y * t) / 4294967296)), .int .i64 (clampI ((w * 4294967296 + z * t) / 4294967296))], laid1 [.agg [.int .i64 u, .int .i64 v, .int .i64 w], .agg [.int .i64 x, .int .i64 y, .int .i64 z], .fn 77 [.ptr 0 0]] rfl (by simp) m0 rfl, by first | exact if_pos hc | (simp only [m0]; exact if_pos hc) | (simp [m0]; exact hc), by simp, by simp, ?_⟩
        simp [Tryz.f76, hu, hv, hw, hx, hy, hz, ht, vmove1S]
      · simp at h
    · simp at h
  · simp at h
noncomputable def vMoveS : List AV → PR
  | [.agg [.int .i64 a, .int .i64 b, .int .i64 c], .agg [.int .i64 d, .int .i64 e, .int .i64 f], .int .i64 t] => open Classical in if InI a ∧ InI b ∧ InI c ∧ InI d ∧ InI e ∧ InI f ∧ InI t then .val (.agg [.int .i64 (clampI ((a * 4294967296 + d * t) / 4294967296)), .int .i64 (clampI ((b * 4294967296 + e * t) / 4294967296)), .int .i64 (clampI ((c * 4294967296 + f * t) / 4294967296))]) else .fail
  | _ => .fail
@[simp] theorem vMoveS_val {a b c d e f t : Int} (h : InI a ∧ InI b ∧ InI c ∧ InI d ∧ InI e ∧ InI f ∧ InI t) : vMoveS [.agg [.int .i64 a, .int .i64 b, .int .i64 c], .agg [.int .i64 d, .int .i64 e, .int .i64 f], .int .i64 t] = .val (.agg [.int .i64 (clampI ((a * 4294967296 + d * t) / 4294967296)), .int .i64 (clampI ((b * 4294967296 + e * t) / 4294967296)), .int .i64 (clampI ((c * 4294967296 + f * t) / 4294967296))]) := if_pos h
theorem vMove_ok : SumOk Tryz.prog 40 (pureS vMoveS) := by
  refine sum_fn (L := fun _ => none) (n := 1) (S := stOf [(76, veachMS)]) drawS Tryz.T_ok (stOf_ok (by simp [veachM_ok])) Tryz.func40 rfl (by kernel_rfl) (by kernel_rfl) ?_
    (by intro args v h; unfold vMoveS at h; split at h <;> (try split at h) <;> simp at h)
  intro args v h
  unfold vMoveS at h
  split at h
  · rename_i a b c d e f t
    split at h
    · rename_i hc
      obtain ⟨ha, hb, hc, hd, he, hf, ht⟩ := hc
      cases h
      refine ⟨by simp, by simp, by simp, ?_⟩
      simp [Tryz.f40, ha, hb, hc, hd, he, hf, ht, veachMS]
    · simp at h
  · simp at h
noncomputable def r3furtherS : List AV → PR
  | [.int .i64 x, .int .i64 y, .int .i64 t] => open Classical in if InI x ∧ InI y ∧ InI t then .val (.int .i64 (clampI ((x * 4294967296 + y * t) / 4294967296))) else .fail
  | _ => .fail
@[simp] theorem r3furtherS_val {x y t : Int} (h : InI x ∧ InI y ∧ InI t) : r3furtherS [.int .i64 x, .int .i64 y, .int .i64 t] = .val (.int .i64 (clampI ((x * 4294967296 + y * t) / 4294967296))) := if_pos h
theorem r3further_ok : SumOk Tryz.prog 84 (pureS r3furtherS) := by
  refine sum_fn (L := fun _ => none) (n := 1) (S := stOf [(142, pureS r2inS), (120, pureS r3plusS), (119, pureS r3rawS), (118, pureS r3timesS), (122, pureS r3twiceS)]) drawS Tryz.T_ok (stOf_ok (by simp [r2in_ok, r3plus_ok, r3raw_ok, r3times_ok, r3twice_ok])) Tryz.func84 rfl (by kernel_rfl) (by kernel_rfl) ?_
    (by intro args v h; unfold r3furtherS at h; split at h <;> (try split at h) <;> simp at h)
  intro args v h
  unfold r3furtherS at h
  split at h
  · rename_i x y t
    split at h
    · rename_i hc
      obtain ⟨hx, hy, ht⟩ := hc
      cases h
      refine ⟨by simp, by simp, by simp, ?_⟩
      have s1 : Bd 95 (x * 4294967296) := by simpa using (Bd.of hx).shl 32
      have s2 := s1.w (by decide)
      have s3 : Bd 127 (x * 4294967296 + y * t) := (s1.mono (by decide)).add ((Bd.of hy).mul (Bd.of ht))
      have s4 := s3.w (by decide)
      have s5 := ((Bd.of hy).mul (Bd.of ht)).w (by decide)
      simp [Tryz.f84, hx, hy, ht, fitI hx, fitI hy, fitI ht, R8_limb, s2, sval_limb s2, s4, sval_limb s4, s5, sval_limb s5]
    · simp at h
  · simp at h
noncomputable def r3MoveS : List AV → PR
  | [.agg [.int .i64 a, .int .i64 b, .int .i64 c], .agg [.int .i64 d, .int .i64 e, .int .i64 f], .int .i64 t] => open Classical in if InI a ∧ InI b ∧ InI c ∧ InI d ∧ InI e ∧ InI f ∧ InI t then .val (.agg [.int .i64 (clampI ((a * 4294967296 + d * t) / 4294967296)), .int .i64 (clampI ((b * 4294967296 + e * t) / 4294967296)), .int .i64 (clampI ((c * 4294967296 + f * t) / 4294967296))]) else .fail
  | _ => .fail
@[simp] theorem r3MoveS_val {a b c d e f t : Int} (h : InI a ∧ InI b ∧ InI c ∧ InI d ∧ InI e ∧ InI f ∧ InI t) : r3MoveS [.agg [.int .i64 a, .int .i64 b, .int .i64 c], .agg [.int .i64 d, .int .i64 e, .int .i64 f], .int .i64 t] = .val (.agg [.int .i64 (clampI ((a * 4294967296 + d * t) / 4294967296)), .int .i64 (clampI ((b * 4294967296 + e * t) / 4294967296)), .int .i64 (clampI ((c * 4294967296 + f * t) / 4294967296))]) := if_pos h
theorem r3Move_ok : SumOk Tryz.prog 42 (pureS r3MoveS) := by
  refine sum_fn (L := fun i => if i = 1 then some (.quiet 19) else none) (n := 1) (S := stOf [(84, pureS r3furtherS)]) drawS Tryz.T_ok (stOf_ok (by simp [r3further_ok])) Tryz.func42 rfl (by kernel_rfl) (by kernel_rfl) ?_
    (by intro args v h; unfold r3MoveS at h; split at h <;> (try split at h) <;> simp at h)
  intro args v h
  unfold r3MoveS at h
  split at h
  · rename_i a b c d e f t
    split at h
    · rename_i hc
      obtain ⟨ha, hb, hc, hd, he, hf, ht⟩ := hc
      cases h
      refine ⟨by simp, by simp, by simp, ?_⟩
      simp [Tryz.f42, ha, hb, hc, hd, he, hf, ht]
    · simp at h
  · simp at h
end Go.X
end

section
namespace Go.X
open Go.Proofs
attribute [local irreducible] Good
attribute [simp] Tryz.T_31
def max3 (a b c : Int) : Int := if (if a < b then b else a) < c then c else if a < b then b else a
def min3 (a b c : Int) : Int := if c < (if b < a then b else a) then c else if b < a then b else a
theorem max3_is {a b c : Int} : (if (if a < b then b else a) < c then c else if a < b then b else a) = max3 a b c := rfl
theorem min3_is {a b c : Int} : (if c < (if b < a then b else a) then c else if b < a then b else a) = min3 a b c := rfl
def Place (a b c : Int) : Prop := (-4398046511104 ≤ a ∧ a ≤ 4398046511104) ∧ (-4398046511104 ≤ b ∧ b ≤ 4398046511104) ∧ (-4398046511104 ≤ c ∧ c ≤ 4398046511104)
instance (a b c : Int) : Decidable (Place a b c) := inferInstanceAs (Decidable (_ ∧ _))
theorem place_iff {a b c : Int} : Place a b c ↔ ¬ (4398046511104 < max3 a b c) ∧ ¬ (min3 a b c < -4398046511104) := by
  unfold Place max3 min3
  constructor
  · intro h; constructor <;> (repeat' split) <;> omega
  · rintro ⟨h1, h2⟩
    revert h1 h2
    (repeat' split) <;> omega
def Size3 (a b c : Int) : Prop := (-274877906944 ≤ a ∧ a ≤ 274877906944) ∧ (-274877906944 ≤ b ∧ b ≤ 274877906944) ∧ (-274877906944 ≤ c ∧ c ≤ 274877906944)
theorem size_iff {a b c : Int} : Size3 a b c ↔ ¬ (274877906944 < max3 a b c) ∧ ¬ (min3 a b c < -274877906944) := by
  unfold Size3 max3 min3
  constructor
  · intro h; constructor <;> (repeat' split) <;> omega
  · rintro ⟨h1, h2⟩
    revert h1 h2
    (repeat' split) <;> omega
theorem told_one {θ : List Nat} {m0 m' : List Blk} {nxt q : Nat} {v v' : AV} {blk : Blk} (h1 : θ.length ≤ q) (h2 : m'[q]? = some blk) (h3 : ∀ i, i < θ.length → m'[i]? = m0[i]?) (hb : refsL blk.items = [])
    (hv : v.ren (glob θ nxt [q]) = v') (hr : ∀ b ∈ refs v, b = q) (hu : v ≠ .undef) (h6 : ∀ i, i < θ.length → refsL (m0.getD i default).items = [] := by simp) :
    Told θ m0 m' nxt [q] none v (.val v' [] [blk]) := by
  have h4 : q < m'.length := by
    rcases Nat.lt_or_ge q m'.length with h | h
    · exact h
    · rw [List.getElem?_eq_none h] at h2; simp at h2
  have h5 : m'.getD q default = blk := by rw [List.getD_eq_getElem?_getD, h2]; rfl
  refine ⟨?_, by simp, by simp; omega, by omega, fun i hi _ => h3 i hi, by simp, fun b h => .inr (by simp [hr b h]), ?_, hu⟩
  · simp only [List.map_cons, List.map_nil, h5]
    rw [hv]
    simp only [upOf, glB]
    rw [renL_noref _ _ hb]
  · intro p hp b hb'
    rcases hp with hp | hp
    · have e : m'.getD p default = m0.getD p default := by rw [List.getD_eq_getElem?_getD, h3 p hp, ← List.getD_eq_getElem?_getD]
      rw [e, h6 p hp] at hb'
      simp at hb'
    · simp at hp
      subst hp
      rw [h5, hb] at hb'
      simp at hb'
theorem told_none {θ : List Nat} {m0 m' : List Blk} {nxt : Nat} {v : AV} (hl : θ.length ≤ m'.length) (h3 : ∀ i, i < θ.length → m'[i]? = m0[i]?) (hr : refs v = []) (hu : v ≠ .undef) (h6 : ∀ i, i < θ.length → refsL (m0.getD i default).items = [] := by simp) :
    Told θ m0 m' nxt [] none v (.val v [] []) := by
  refine ⟨by simp [upOf, ren_noref _ _ hr], by simp, by simp, hl, fun i h _ => h3 i h, by simp, by simp [hr], ?_, hu⟩
  intro p hp b hb'
  rcases hp with hp | hp
  · have e : m'.getD p default = m0.getD p default := by rw [List.getD_eq_getElem?_getD, h3 p hp, ← List.getD_eq_getElem?_getD]
    rw [e, h6 p hp] at hb'
    simp at hb'
  · simp at hp
noncomputable def pCheckS : List AV → PR
  | [.agg [.int .i64 p1, .int .i64 p2, .int .i64 p3, .int .i64 q0, .int .i64 q1, .int .i64 q2, .int .i64 q3]] => open Classical in if InI p1 ∧ InI p2 ∧ InI p3 ∧ InI q0 ∧ InI q1 ∧ InI q2 ∧ InI q3 then .val (.int .i64 (if Place p1 p2 p3 then (if TurnP q0 q1 q2 q3 then 0 else 9) else 7)) else .fail
  | _ => .fail
@[simp] theorem pCheckS_val {p1 p2 p3 q0 q1 q2 q3 : Int} (h : InI p1 ∧ InI p2 ∧ InI p3 ∧ InI q0 ∧ InI q1 ∧ InI q2 ∧ InI q3) : pCheckS [.agg [.int .i64 p1, .int .i64 p2, .int .i64 p3, .int .i64 q0, .int .i64 q1, .int .i64 q2, .int .i64 q3]] = .val (.int .i64 (if Place p1 p2 p3 then (if TurnP q0 q1 q2 q3 then 0 else 9) else 7)) := if_pos h
theorem pCheck_ok : SumOk Tryz.prog 67 (pureS pCheckS) := by
  refine sum_fn (L := fun _ => none) (n := 1) (S := stOf [(45, pureS qcheckS)]) drawS Tryz.T_ok (stOf_ok (by simp [qcheck_ok])) Tryz.func67 rfl (by kernel_rfl) (by kernel_rfl) ?_
    (by intro args v h; unfold pCheckS at h; split at h <;> (try split at h) <;> simp at h)
  intro args v h
  unfold pCheckS at h
  split at h
  · rename_i p1 p2 p3 q0 q1 q2 q3
    split at h
    · rename_i hc
      obtain ⟨hp1, hp2, hp3, hq0, hq1, hq2, hq3⟩ := hc
      cases h
      refine ⟨by simp, by simp, by simp, ?_⟩
      by_cases pl : Place p1 p2 p3
      · have pl2 := place_iff.1 pl
        by_cases tt : TurnP q0 q1 q2 q3
        · simp (maxSteps := 10000000) [hq0, hq1, hq2, hq3, Tryz.f67, max3_is, min3_is, pl, pl2.1, pl2.2, tt]
        · simp (maxSteps := 10000000) [hq0, hq1, hq2, hq3, Tryz.f67, max3_is, min3_is, pl, pl2.1, pl2.2, tt]
      · have pl2 : 4398046511104 < max3 p1 p2 p3 ∨ min3 p1 p2 p3 < -4398046511104 := by
          rw [place_iff] at pl; omega
        rcases Decidable.em (4398046511104 < max3 p1 p2 p3) with k1 | k1
        · simp (maxSteps := 10000000) [Tryz.f67, max3_is, pl, k1]
        · have k2 := pl2.resolve_left k1
          simp (maxSteps := 10000000) [Tryz.f67, max3_is, min3_is, pl, k1, k2]
    · simp at h
  · simp at h
end Go.X
end
