/- Quaternions: by the root of the square. -/
import Derived.Test.YtgfpllfimpgooaaGreatJMS
import Derived.Test.YtgfpllfimpgooaaGreatGH
namespace Go.X
open Go.Proofs
attribute [local irreducible] Good

theorem rootI_is {a : Int} (h0 : 0 ≤ a) : 0 ≤ rootI a ∧ rootI a * rootI a ≤ a ∧ a < (rootI a + 1) * (rootI a + 1) := by
  have key : ∃ r : Int, 0 ≤ r ∧ r * r ≤ a ∧ a < (r + 1) * (r + 1) := by
    obtain ⟨n, rfl⟩ := Int.eq_ofNat_of_zero_le h0
    clear h0
    induction n with
    | zero => exact ⟨0, by decide, by decide, by decide⟩
    | succ n ih =>
      obtain ⟨r, h1, h2, h3⟩ := ih
      by_cases hn : (r + 1) * (r + 1) ≤ ((n + 1 : Nat) : Int)
      · refine ⟨r + 1, by omega, hn, ?_⟩
        have : (r + 1 + 1) * (r + 1 + 1) = (r + 1) * (r + 1) + 2 * r + 3 := by grind
        omega
      · exact ⟨r, h1, by omega, by omega⟩
  unfold rootI
  rw [dif_pos key]
  exact Classical.choose_spec key
theorem rootI_le {a : Int} (h0 : 0 ≤ a) : rootI a ≤ a := by
  obtain ⟨r0, r1, -⟩ := rootI_is h0
  by_cases h : rootI a = 0
  · omega
  · have := Int.mul_le_mul_of_nonneg_left (show 1 ≤ rootI a by omega) r0
    omega
theorem Bd.root {k : Nat} {a : Int} (h : Bd k a) (h0 : 0 ≤ a) : Bd k (rootI a) := by
  have h1 := rootI_le h0
  have h2 := (rootI_is h0).1
  unfold Bd at *; omega
theorem Bd.sqroot {k : Nat} {a : Int} (h : Bd k a) (h0 : 0 ≤ a) : Bd k (rootI a * rootI a) := by
  obtain ⟨r0, r1, -⟩ := rootI_is h0
  have := Int.mul_nonneg r0 r0
  unfold Bd at *; omega
theorem Bd.quoI {k : Nat} {a b : Int} (h : Bd k a) (hb : 0 < b) : Bd k (quoI a b) := by
  unfold X.quoI; rw [if_pos hb]; exact h.ediv hb
theorem quoI_nonneg {a b : Int} (h : 0 ≤ a) (hb : 0 < b) : 0 ≤ quoI a b := by
  unfold quoI; rw [if_pos hb]; exact Int.ediv_nonneg h (Int.le_of_lt hb)
theorem remI_bd {a b : Int} (hb : 0 < b) : 0 ≤ remI a b ∧ remI a b < b := by
  obtain ⟨-, h⟩ := quoI_spec a (show b ≠ 0 by omega)
  omega
theorem remI_in {a b : Int} (hb : 0 < b) (h : InW b) : InW (remI a b) := by
  have := remI_bd (a := a) hb
  unfold InW at *; omega
theorem sq_nonneg (x : Int) : 0 ≤ x * x := by
  rcases Int.le_total 0 x with h | h
  · exact Int.mul_nonneg h h
  · exact Int.mul_nonneg_of_nonpos_of_nonpos h h
/-- x by the root of a square, in whole numbers, rounded down -/
noncomputable def ratI (x s : Int) : Int :=
  if x < 0 then -(if remI (x * x * 18446744073709551616) s ≠ 0 ∨ rootI (quoI (x * x * 18446744073709551616) s) * rootI (quoI (x * x * 18446744073709551616) s) ≠ quoI (x * x * 18446744073709551616) s
    then rootI (quoI (x * x * 18446744073709551616) s) + 1 else rootI (quoI (x * x * 18446744073709551616) s)) else rootI (quoI (x * x * 18446744073709551616) s)
theorem rat_iff {n s : Int} (hs : 0 < s) (hn : 0 ≤ n) : rootI (quoI n s) * rootI (quoI n s) * s = n ↔ ¬ (remI n s ≠ 0 ∨ rootI (quoI n s) * rootI (quoI n s) ≠ quoI n s) := by
  obtain ⟨h1, -⟩ := quoI_spec n (show s ≠ 0 by omega)
  obtain ⟨h2, h3⟩ := remI_bd (a := n) hs
  have h4 := (rootI_is (quoI_nonneg hn hs)).2.1
  generalize remI n s = r at *
  generalize quoI n s = q at *
  generalize rootI q * rootI q = t at *
  constructor
  · intro e
    by_cases ht : t = q
    · subst ht; omega
    · have : (t + 1) * s ≤ q * s := Int.mul_le_mul_of_nonneg_right (by omega) (Int.le_of_lt hs)
      rw [Int.add_mul] at this
      omega
  · intro e
    have hr : r = 0 := Classical.byContradiction fun h => e (.inl h)
    have ht : t = q := Classical.byContradiction fun h => e (.inr h)
    rw [ht]; omega
theorem Turn_pos {a b c d : Int} (h : TurnP a b c d) : 0 < sq4 a b c d := by unfold TurnP at h; omega

noncomputable def qratioS : List AV → PR
  | [.arr .u64 8 f, .arr .u64 8 g] => open Classical in if R8 f ∧ R8 g ∧ Bd 63 (sval f) ∧ 0 < sval g then .val (.int .i64 (clampI (ratI (sval f) (sval g)))) else .fail
  | _ => .fail
@[simp] theorem qratioS_val {f g : Nat → Int} (h : R8 f ∧ R8 g ∧ Bd 63 (sval f) ∧ 0 < sval g) : qratioS [.arr .u64 8 f, .arr .u64 8 g] = .val (.int .i64 (clampI (ratI (sval f) (sval g)))) := if_pos h
set_option maxHeartbeats 40000000 in
theorem qratio_ok : SumOk Tryz.prog 118 (pureS qratioS) := by
  refine sum_fn (L := fun i => if i = 6 then some (.quiet 3) else none) (n := 1) (S := stOf [(64, pureS finS), (173, pureS qplusS), (174, pureS qtimesS), (107, pureS divS), (198, pureS negateS), (105, pureS ofS), (122, pureS shlS), (126, pureS signS), (197, pureS sqrtS)]) drawS Tryz.T_ok (stOf_ok (by simp [fin_ok, qplus_ok, qtimes_ok, div_ok, negate_ok, of_ok, shl_ok, sign_ok, sqrt_ok])) Tryz.func118 rfl (by kernel_rfl) (by kernel_rfl) ?_
    (by intro args v h; unfold qratioS at h; split at h <;> (try split at h) <;> simp at h)
  intro args v h
  unfold qratioS at h
  split at h
  · rename_i f g
    split at h
    · rename_i hc
      obtain ⟨hf, hg, e0, e1⟩ := hc
      cases h
      refine ⟨by simp, by simp, by simp, ?_⟩
      have n0 : 0 ≤ sval f * sval f * 18446744073709551616 := Int.mul_nonneg (sq_nonneg _) (by decide)
      have bn : Bd 190 (sval f * sval f * 18446744073709551616) := by simpa using (e0.mul e0).shl 64
      have b0 := e0.mul e0
      have j0 := b0.w (by decide)
      have jn := bn.w (by decide)
      have bq := bn.quoI e1
      have jq := bq.w (by decide)
      have jr := remI_in (a := sval f * sval f * 18446744073709551616) e1 (sval_range hg)
      have q0 := quoI_nonneg n0 e1
      have br := bq.root q0
      have jt := br.w (by decide)
      have r0 := (rootI_is q0).1
      have bs := bq.sqroot q0
      have js := bs.w (by decide)
      have k1 := (br.add (show Bd 190 1 from (by unfold Bd; decide : Bd 1 1).mono (by decide)))
      have j1 := k1.w (by decide)
      have jm := br.neg.w (by decide)
      have jm1 := k1.neg.w (by decide)
      have sz : sval g ≠ 0 := by omega
      have nq : ¬ quoI (sval f * sval f * 18446744073709551616) (sval g) < 0 := by omega
      by_cases c0 : sval f < 0
      · by_cases c1 : remI (sval f * sval f * 18446744073709551616) (sval g) = 0
        · by_cases c2 : rootI (quoI (sval f * sval f * 18446744073709551616) (sval g)) * rootI (quoI (sval f * sval f * 18446744073709551616) (sval g)) = quoI (sval f * sval f * 18446744073709551616) (sval g)
          · simp (maxSteps := 10000000) [hf, hg, R8_limb, shlV, fitV, rootV, quoV, j0, sval_limb j0, jn, sval_limb jn, jq, sval_limb jq, sval_limb jt, jm, sval_limb jm, sz, nq, sgnI_neg, ratI, eqArr_iff (R8_limb _) (R8_limb _), Tryz.f118, c0, c1, c2]
          · simp (maxSteps := 10000000) [hf, hg, R8_limb, shlV, fitV, rootV, quoV, j0, sval_limb j0, jn, sval_limb jn, jq, sval_limb jq, sval_limb jt, js, sval_limb js, j1, sval_limb j1, jm1, sval_limb jm1, sz, nq, sgnI_neg, ratI, ofS_in InI_1, fitI InI_1, eqArr_iff (R8_limb _) (R8_limb _), Tryz.f118, c0, c1, c2]
        · have c3 : (sgnI (remI (sval f * sval f * 18446744073709551616) (sval g)) != 0) = true := by simp [sgnI_zero, c1]
          simp (maxSteps := 10000000) [hf, hg, R8_limb, shlV, fitV, rootV, quoV, j0, sval_limb j0, jn, sval_limb jn, jq, sval_limb jq, sval_limb jr, sval_limb jt, j1, sval_limb j1, jm1, sval_limb jm1, sz, nq, sgnI_neg, ratI, ofS_in InI_1, fitI InI_1, Tryz.f118, c0, c1, c3]
      · simp (maxSteps := 10000000) [hf, hg, R8_limb, shlV, fitV, rootV, quoV, j0, sval_limb j0, jn, sval_limb jn, jq, sval_limb jq, sval_limb jt, sz, nq, sgnI_neg, ratI, Tryz.f118, c0]
    · simp at h
  · simp at h

noncomputable def qunit1S : Sum := fun args env _ => match args with
  | [.int .i64 k, .ptr p 0, .ptr q 0] => match env p, env q with
    | some ⟨[.arr .u64 8 n0, .arr .u64 8 n1, .arr .u64 8 n2, .arr .u64 8 n3], _⟩, some ⟨[.arr .u64 8 g], _⟩ => open Classical in if R8 n0 ∧ R8 n1 ∧ R8 n2 ∧ R8 n3 ∧ R8 g ∧ 0 ≤ k ∧ k < 4 ∧ Bd 63 (sval n0) ∧ Bd 63 (sval n1) ∧ Bd 63 (sval n2) ∧ Bd 63 (sval n3) ∧ 0 < sval g ∧ p ≠ q then .val (.int .i64 (clampI (ratI (sval (pick4 n0 n1 n2 n3 k)) (sval g)))) [] [] else .fail
    | _, _ => .fail
  | _ => .fail
theorem qunit1_ok : SumOk Tryz.prog 117 qunit1S := by
  refine sum_read (L := fun _ => none) (n := 1) (S := stOf [(118, pureS qratioS)]) drawS Tryz.T_ok (stOf_ok (by simp [qratio_ok])) Tryz.func117 rfl (by kernel_rfl) (by kernel_rfl) ?_
  intro args env nxt h
  unfold qunit1S at h ⊢
  split at h
  · rename_i k p q
    split at h
    · rename_i n0 n1 n2 n3 ty0 g ty1 m0 m1
      split at h
      · rename_i hc
        obtain ⟨hn0, hn1, hn2, hn3, hg, e0, e1, e2, e3, e4, e5, e6, hne⟩ := id hc
        refine ⟨_, _, _, .int .i64 (clampI (ratI (sval (pick4 n0 n1 n2 n3 k)) (sval g))), laid2 [.int .i64 k, .ptr 0 0, .ptr 1 0] rfl (by simp) m0 m1 hne rfl rfl, by first | exact if_pos hc | (simp only [m0, m1]; exact if_pos hc), by simp, by simp, ?_⟩
        have rp := R8_pick4 hn0 hn1 hn2 hn3
        have bp := Bd_pick4 e2 e3 e4 e5
        simp [Tryz.f117, hg, e0, e1, e6, rp, bp, cut4 e0 e1]
      · simp at h
    · simp at h
  · simp at h

noncomputable def qofUnitS : Sum := fun args env _ => match args with
  | [.fn 117 [.ptr p 0, .ptr q 0]] => match env p, env q with
    | some ⟨[.arr .u64 8 n0, .arr .u64 8 n1, .arr .u64 8 n2, .arr .u64 8 n3], _⟩, some ⟨[.arr .u64 8 g], _⟩ => open Classical in if R8 n0 ∧ R8 n1 ∧ R8 n2 ∧ R8 n3 ∧ R8 g ∧ Bd 63 (sval n0) ∧ Bd 63 (sval n1) ∧ Bd 63 (sval n2) ∧ Bd 63 (sval n3) ∧ 0 < sval g ∧ p ≠ q then .val (.agg [.int .i64 (clampI (ratI (sval n0) (sval g))), .int .i64 (clampI (ratI (sval n1) (sval g))), .int .i64 (clampI (ratI (sval n2) (sval g))), .int .i64 (clampI (ratI (sval n3) (sval g)))]) [] [] else .fail
    | _, _ => .fail
  | _ => .fail
theorem qofUnit_ok : SumOk Tryz.prog 116 qofUnitS := by
  refine sum_read (L := fun _ => none) (n := 1) (S := stOf [(117, qunit1S)]) drawS Tryz.T_ok (stOf_ok (by simp [qunit1_ok])) Tryz.func116 rfl (by kernel_rfl) (by kernel_rfl) ?_
  intro args env nxt h
  unfold qofUnitS at h ⊢
  split at h
  · rename_i p q
    split at h
    · rename_i n0 n1 n2 n3 ty0 g ty1 m0 m1
      split at h
      · rename_i hc
        obtain ⟨hn0, hn1, hn2, hn3, hg, e0, e1, e2, e3, e4, hne⟩ := id hc
        refine ⟨_, _, _, .agg [.int .i64 (clampI (ratI (sval n0) (sval g))), .int .i64 (clampI (ratI (sval n1) (sval g))), .int .i64 (clampI (ratI (sval n2) (sval g))), .int .i64 (clampI (ratI (sval n3) (sval g)))], laid2 [.fn 117 [.ptr 0 0, .ptr 1 0]] rfl (by simp) m0 m1 hne rfl rfl, by first | exact if_pos hc | (simp only [m0, m1]; exact if_pos hc), by simp, by simp, ?_⟩
        simp [Tryz.f116, hn0, hn1, hn2, hn3, hg, e0, e1, e2, e3, e4, qunit1S, pick4]
      · simp at h
    · simp at h
  · simp at h

noncomputable def qUnitS : List AV → PR
  | [.agg [.int .i64 a, .int .i64 b, .int .i64 c, .int .i64 d]] => open Classical in if InI a ∧ InI b ∧ InI c ∧ InI d then .val (if TurnP a b c d then .tup [.agg [.int .i64 (clampI (ratI a (sq4 a b c d))), .int .i64 (clampI (ratI b (sq4 a b c d))), .int .i64 (clampI (ratI c (sq4 a b c d))), .int .i64 (clampI (ratI d (sq4 a b c d)))], .int .i64 0] else .tup [.agg [.int .i64 0, .int .i64 0, .int .i64 0, .int .i64 0], .int .i64 9]) else .fail
  | _ => .fail
@[simp] theorem qUnitS_val {a b c d : Int} (h : InI a ∧ InI b ∧ InI c ∧ InI d) : qUnitS [.agg [.int .i64 a, .int .i64 b, .int .i64 c, .int .i64 d]] = .val (if TurnP a b c d then .tup [.agg [.int .i64 (clampI (ratI a (sq4 a b c d))), .int .i64 (clampI (ratI b (sq4 a b c d))), .int .i64 (clampI (ratI c (sq4 a b c d))), .int .i64 (clampI (ratI d (sq4 a b c d)))], .int .i64 0] else .tup [.agg [.int .i64 0, .int .i64 0, .int .i64 0, .int .i64 0], .int .i64 9]) := if_pos h
set_option maxHeartbeats 4000000 in
theorem qUnit_ok : SumOk Tryz.prog 54 (pureS qUnitS) := by
  refine sum_fn (L := fun _ => none) (n := 1) (S := stOf [(113, pureS qcheckS), (114, pureS qrawS), (115, pureS qsquareS), (116, qofUnitS)]) drawS Tryz.T_ok (stOf_ok (by simp [qcheck_ok, qraw_ok, qsquare_ok, qofUnit_ok])) Tryz.func54 rfl (by kernel_rfl) (by kernel_rfl) ?_
    (by intro args v h; unfold qUnitS at h; split at h <;> (try split at h) <;> simp at h)
  intro args v h
  unfold qUnitS at h
  split at h
  · rename_i a b c d
    split at h
    · rename_i hc
      obtain ⟨ha, hb, hc, hd⟩ := hc
      cases h
      refine ⟨by simp, by (split <;> simp), by (split <;> simp), ?_⟩
      have sb := (Bd_sq4 (Bd.of ha) (Bd.of hb) (Bd.of hc) (Bd.of hd)).w (by decide)
      by_cases tt : TurnP a b c d
      · have sp := Turn_pos tt
        simp [ha, hb, hc, hd, fitI ha, fitI hb, fitI hc, fitI hd, R8_limb, Bd.of ha, Bd.of hb, Bd.of hc, Bd.of hd, sval_limb sb, qofUnitS, Tryz.f54, tt, sp]
      · simp [ha, hb, hc, hd, Tryz.f54, tt]
    · simp at h
  · simp at h

noncomputable def r3ratioS : List AV → PR
  | [.int .i64 x, .arr .u64 8 g] => open Classical in if InI x ∧ R8 g ∧ 0 < sval g then .val (.int .i64 (clampI (ratI x (sval g)))) else .fail
  | _ => .fail
@[simp] theorem r3ratioS_val {x : Int} {g : Nat → Int} (h : InI x ∧ R8 g ∧ 0 < sval g) : r3ratioS [.int .i64 x, .arr .u64 8 g] = .val (.int .i64 (clampI (ratI x (sval g)))) := if_pos h
set_option maxHeartbeats 40000000 in
theorem r3ratio_ok : SumOk Tryz.prog 179 (pureS r3ratioS) := by
  refine sum_fn (L := fun i => if i = 9 then some (.quiet 3) else none) (n := 1) (S := stOf [(193, pureS divS), (163, pureS ofS), (160, pureS sqrtS), (164, pureS rwithinS), (218, pureS r3lessS), (162, pureS r3plusS), (192, pureS r3rawS), (161, pureS r3timesS), (194, pureS r3twiceS)]) drawS Tryz.T_ok (stOf_ok (by simp [rdiv_ok, small_ok, rsqrt_ok, rwithin_ok, r3less_ok, r3plus_ok, r3raw_ok, r3times_ok, r3twice_ok])) Tryz.func179 rfl (by kernel_rfl) (by kernel_rfl) ?_
    (by intro args v h; unfold r3ratioS at h; split at h <;> (try split at h) <;> simp at h)
  intro args v h
  unfold r3ratioS at h
  split at h
  · rename_i x g
    split at h
    · rename_i hc
      obtain ⟨hx, hg, e0⟩ := hc
      cases h
      refine ⟨by simp, by simp, by simp, ?_⟩
      have n0 : 0 ≤ x * x * 18446744073709551616 := Int.mul_nonneg (sq_nonneg _) (by decide)
      have bn : Bd 190 (x * x * 18446744073709551616) := by simpa using ((Bd.of hx).mul (Bd.of hx)).shl 64
      have b0 := (Bd.of hx).mul (Bd.of hx)
      have j0 := b0.w (by decide)
      have jn := bn.w (by decide)
      have bq := bn.quoI e0
      have jq := bq.w (by decide)
      have jr := remI_in (a := x * x * 18446744073709551616) e0 (sval_range hg)
      have q0 := quoI_nonneg n0 e0
      have br := bq.root q0
      have jt := br.w (by decide)
      have r0 := (rootI_is q0).1
      have bs := bq.sqroot q0
      have js := bs.w (by decide)
      have k1 := (br.add (show Bd 190 1 from (by unfold Bd; decide : Bd 1 1).mono (by decide)))
      have j1 := k1.w (by decide)
      have jm := br.neg.w (by decide)
      have jm1 := k1.neg.w (by decide)
      have sz : sval g ≠ 0 := by omega
      have nq : ¬ quoI (x * x * 18446744073709551616) (sval g) < 0 := by omega
      have hi := rat_iff e0 n0
      have bts : Bd 190 (rootI (quoI (x * x * 18446744073709551616) (sval g)) * rootI (quoI (x * x * 18446744073709551616) (sval g)) * sval g) := by
        have h1 := (rootI_is q0).2.1
        obtain ⟨h2, -⟩ := quoI_spec (x * x * 18446744073709551616) sz
        have h3 := (remI_bd (a := x * x * 18446744073709551616) e0).1
        have h4 := Int.mul_le_mul_of_nonneg_right h1 (Int.le_of_lt e0)
        have h5 := Int.mul_nonneg (Int.mul_nonneg r0 r0) (Int.le_of_lt e0)
        unfold Bd at bn ⊢
        omega
      have jts := bts.w (by decide)
      by_cases c0 : x < 0
      · have c0' : ¬ 0 ≤ x := by omega
        by_cases c1 : rootI (quoI (x * x * 18446744073709551616) (sval g)) * rootI (quoI (x * x * 18446744073709551616) (sval g)) * sval g = x * x * 18446744073709551616
        · have c2 := hi.1 c1
          simp (maxSteps := 10000000) [hx, hg, fitI hx, R8_limb, rootV, quoV, j0, sval_limb j0, jn, sval_limb jn, jq, sval_limb jq, sval_limb jt, js, sval_limb js, jm, sval_limb jm, sz, nq, ratI, eqArr_iff (R8_limb _) (R8_limb _), R8_zero, sval_zero, Tryz.f179, c0, c0', c1]
          rw [if_neg (by simpa using c2)]
        · have c2 : remI (x * x * 18446744073709551616) (sval g) ≠ 0 ∨ rootI (quoI (x * x * 18446744073709551616) (sval g)) * rootI (quoI (x * x * 18446744073709551616) (sval g)) ≠ quoI (x * x * 18446744073709551616) (sval g) := Classical.byContradiction fun e => c1 (hi.2 e)
          simp (maxSteps := 10000000) [hx, hg, fitI hx, R8_limb, rootV, quoV, j0, sval_limb j0, jn, sval_limb jn, jq, sval_limb jq, sval_limb jt, js, sval_limb js, j1, sval_limb j1, jm1, sval_limb jm1, sz, nq, ratI, ofS_in InI_1, fitI InI_1, eqArr_iff (R8_limb _) (R8_limb _), jts, sval_limb jts, R8_zero, sval_zero, Tryz.f179, c0, c0', c1]
          rw [if_pos (by simpa using c2)]
      · have c0' : 0 ≤ x := by omega
        simp (maxSteps := 10000000) [hx, hg, fitI hx, R8_limb, rootV, quoV, j0, sval_limb j0, jn, sval_limb jn, jq, sval_limb jq, sval_limb jt, sz, nq, ratI, Tryz.f179, c0, c0']
    · simp at h
  · simp at h

end Go.X
