/- Matrices. -/
import Derived.Test.YtpojeehijepmhaaGreatGM

section
namespace Go.X
open Go.Proofs
attribute [local irreducible] Good
attribute [simp] Tryz.T_37
attribute [simp] Tryz.T_39
attribute [simp] Tryz.T_130
attribute [simp] Tryz.T_132
def detI (a1 a2 a3 b1 b2 b3 c1 c2 c3 : Int) : Int := a1 * (b2 * c3 - b3 * c2) + a2 * (b3 * c1 - b1 * c3) + a3 * (b1 * c2 - b2 * c1)
theorem Bd.minor {a b c d : Int} (ha : Bd 63 a) (hb : Bd 63 b) (hc : Bd 63 c) (hd : Bd 63 d) : Bd 127 (a * b - c * d) := (ha.mul hb).sub (hc.mul hd)
theorem Bd.det {a1 a2 a3 b1 b2 b3 c1 c2 c3 : Int} (h1 : Bd 63 a1) (h2 : Bd 63 a2) (h3 : Bd 63 a3) (g1 : Bd 63 b1) (g2 : Bd 63 b2) (g3 : Bd 63 b3) (k1 : Bd 63 c1) (k2 : Bd 63 c2) (k3 : Bd 63 c3) : Bd 192 (detI a1 a2 a3 b1 b2 b3 c1 c2 c3) :=
  ((h1.mul (g2.minor k3 g3 k2)).add (h2.mul (g3.minor k1 g1 k3))).add ((h3.mul (g1.minor k2 g2 k1)).mono (by decide))
noncomputable def mplusS : List AV → PR
  | [.arr .u64 8 f, .arr .u64 8 g] => open Classical in if R8 f ∧ R8 g ∧ InW (sval f + sval g) then .val (W (sval f + sval g)) else .fail
  | _ => .fail
@[simp] theorem mplusS_val {f g : Nat → Int} (h : R8 f ∧ R8 g ∧ InW (sval f + sval g)) : mplusS [.arr .u64 8 f, .arr .u64 8 g] = .val (W (sval f + sval g)) := if_pos h
theorem mplus_ok : SumOk Tryz.prog 91 (pureS mplusS) := by
  refine sum_fn (L := fun _ => none) (n := 1) (S := stOf [(78, pureS addS)]) drawS Tryz.T_ok (stOf_ok (by simp [add_ok])) Tryz.func91 rfl (by kernel_rfl) (by kernel_rfl) ?_
    (by intro args v h; unfold mplusS at h; split at h <;> (try split at h) <;> simp at h)
  intro args v h
  unfold mplusS at h
  split at h
  · rename_i f g
    split at h
    · rename_i hc
      obtain ⟨hf, hg, e0⟩ := hc
      cases h
      refine ⟨by simp, by simp, by simp, ?_⟩
      simp [Tryz.f91, hf, hg, e0, fitV]
    · simp at h
  · simp at h
noncomputable def mtimesS : List AV → PR
  | [.arr .u64 8 f, .arr .u64 8 g] => open Classical in if R8 f ∧ R8 g ∧ InW (sval f * sval g) then .val (W (sval f * sval g)) else .fail
  | _ => .fail
@[simp] theorem mtimesS_val {f g : Nat → Int} (h : R8 f ∧ R8 g ∧ InW (sval f * sval g)) : mtimesS [.arr .u64 8 f, .arr .u64 8 g] = .val (W (sval f * sval g)) := if_pos h
theorem mtimes_ok : SumOk Tryz.prog 92 (pureS mtimesS) := by
  refine sum_fn (L := fun _ => none) (n := 1) (S := stOf [(69, pureS mulS)]) drawS Tryz.T_ok (stOf_ok (by simp [mul_ok])) Tryz.func92 rfl (by kernel_rfl) (by kernel_rfl) ?_
    (by intro args v h; unfold mtimesS at h; split at h <;> (try split at h) <;> simp at h)
  intro args v h
  unfold mtimesS at h
  split at h
  · rename_i f g
    split at h
    · rename_i hc
      obtain ⟨hf, hg, e0⟩ := hc
      cases h
      refine ⟨by simp, by simp, by simp, ?_⟩
      simp [Tryz.f92, hf, hg, e0, fitV]
    · simp at h
  · simp at h
noncomputable def mrawS : List AV → PR
  | [.agg [.int .i64 a, .int .i64 b, .int .i64 c]] => open Classical in if InI a ∧ InI b ∧ InI c then .val (.agg [W a, W b, W c]) else .fail
  | _ => .fail
@[simp] theorem mrawS_val {a b c : Int} (h : InI a ∧ InI b ∧ InI c) : mrawS [.agg [.int .i64 a, .int .i64 b, .int .i64 c]] = .val (.agg [W a, W b, W c]) := if_pos h
theorem mraw_ok : SumOk Tryz.prog 89 (pureS mrawS) := by
  refine sum_fn (L := fun i => if i = 1 then some (.quiet 10) else none) (n := 1) (S := stOf [(35, pureS ofS)]) drawS Tryz.T_ok (stOf_ok (by simp [of_ok])) Tryz.func89 rfl (by kernel_rfl) (by kernel_rfl) ?_
    (by intro args v h; unfold mrawS at h; split at h <;> (try split at h) <;> simp at h)
  intro args v h
  unfold mrawS at h
  split at h
  · rename_i a b c
    split at h
    · rename_i hc
      obtain ⟨ha, hb, hc⟩ := hc
      cases h
      refine ⟨by simp, by simp, by simp, ?_⟩
      simp [Tryz.f89, ofS_in ha, ofS_in hb, ofS_in hc]
    · simp at h
  · simp at h
noncomputable def mrawsS : List AV → PR
  | [.agg [.int .i64 a1, .int .i64 a2, .int .i64 a3, .int .i64 b1, .int .i64 b2, .int .i64 b3, .int .i64 c1, .int .i64 c2, .int .i64 c3]] => open Classical in if InI a1 ∧ InI a2 ∧ InI a3 ∧ InI b1 ∧ InI b2 ∧ InI b3 ∧ InI c1 ∧ InI c2 ∧ InI c3 then .val (.agg [W a1, W a2, W a3, W b1, W b2, W b3, W c1, W c2, W c3]) else .fail
  | _ => .fail
@[simp] theorem mrawsS_val {a1 a2 a3 b1 b2 b3 c1 c2 c3 : Int} (h : InI a1 ∧ InI a2 ∧ InI a3 ∧ InI b1 ∧ InI b2 ∧ InI b3 ∧ InI c1 ∧ InI c2 ∧ InI c3) : mrawsS [.agg [.int .i64 a1, .int .i64 a2, .int .i64 a3, .int .i64 b1, .int .i64 b2, .int .i64 b3, .int .i64 c1, .int .i64 c2, .int .i64 c3]] = .val (.agg [W a1, W a2, W a3, W b1, W b2, W b3, W c1, W c2, W c3]) := if_pos h
theorem mraws_ok : SumOk Tryz.prog 88 (pureS mrawsS) := by
  refine sum_fn (L := fun i => if i = 1 then some (.quiet 13) else none) (n := 1) (S := stOf [(89, pureS mrawS)]) drawS Tryz.T_ok (stOf_ok (by simp [mraw_ok])) Tryz.func88 rfl (by kernel_rfl) (by kernel_rfl) ?_
    (by intro args v h; unfold mrawsS at h; split at h <;> (try split at h) <;> simp at h)
  intro args v h
  unfold mrawsS at h
  split at h
  · rename_i a1 a2 a3 b1 b2 b3 c1 c2 c3
    split at h
    · rename_i hc
      obtain ⟨ha1, ha2, ha3, hb1, hb2, hb3, hc1, hc2, hc3⟩ := hc
      cases h
      refine ⟨by simp, by simp, by simp, ?_⟩
      simp [Tryz.f88, ha1, ha2, ha3, hb1, hb2, hb3, hc1, hc2, hc3]
    · simp at h
  · simp at h
end Go.X
end

section
namespace Go.X
open Go.Proofs
attribute [local irreducible] Good
attribute [simp] Tryz.T_4
def mAt (a1 a2 a3 b1 b2 b3 c1 c2 c3 i k : Int) : Int :=
  if i = 0 then (if k = 0 then a1 else if k = 1 then a2 else a3) else if i = 1 then (if k = 0 then b1 else if k = 1 then b2 else b3) else (if k = 0 then c1 else if k = 1 then c2 else c3)
theorem three_of {i : Int} (h0 : 0 ≤ i) (h : i < 3) : i = 0 ∨ i = 1 ∨ i = 2 := by omega
theorem quoI_in {a b : Int} (h : InW a) (hb : b ≠ 0) (ha : a ≠ -K5) : InW (quoI a b) := by
  have hK := K5_pos
  obtain ⟨h1, h2⟩ := quoI_spec a hb
  have h3 : quoI a b = a ∨ (-(if a < 0 then -a else a) ≤ quoI a b ∧ quoI a b ≤ (if a < 0 then -a else a)) := by
    right
    unfold quoI
    by_cases hp : 0 < b
    · obtain ⟨p1, p2⟩ := ediv_le (a := a) hp
      simp only [hp, if_true]
      split
      · rename_i h; have := p2 h; omega
      · rename_i h; have := p1 (by omega); omega
    · obtain ⟨p1, p2⟩ := ediv_le (a := -a) (show 0 < -b by omega)
      simp only [hp, if_false]
      split
      · rename_i h; have := p1 (by omega); omega
      · rename_i h
        by_cases h0 : a = 0
        · have := p1 (by omega); omega
        · have := p2 (by omega); omega
  unfold InW at *
  rcases h3 with h3 | h3
  · omega
  · split at h3 <;> omega
theorem Bd.ne {k : Nat} {a : Int} (h : Bd k a) (hk : k ≤ 510) : a ≠ -K5 := by
  have h1 : (2 : Int) ^ k * 2 ≤ 2 ^ 511 := by
    rw [← Int.pow_succ]; exact pow_le (by omega)
  rw [pow_2_511] at h1
  have hp := pow_2_pos k
  unfold Bd at h
  generalize (2 : Int) ^ k = p at *
  omega
theorem Bd.quo {k : Nat} {a b : Int} (h : Bd k a) (hk : k ≤ 510) (hb : b ≠ 0) : InW (quoI a b) := quoI_in (h.w hk) hb (h.ne hk)
noncomputable def r4threeS : List AV → PR
  | [.int .i64 a, .int .i64 b, .int .i64 c] => open Classical in if InI a ∧ InI b ∧ InI c then .val (W (a * b * c)) else .fail
  | _ => .fail
@[simp] theorem r4threeS_val {a b c : Int} (h : InI a ∧ InI b ∧ InI c) : r4threeS [.int .i64 a, .int .i64 b, .int .i64 c] = .val (W (a * b * c)) := if_pos h
theorem r4three_ok : SumOk Tryz.prog 158 (pureS r4threeS) := by
  refine sum_fn (L := fun _ => none) (n := 1) (S := stOf [(96, pureS r3rawS), (95, pureS r3timesS)]) drawS Tryz.T_ok (stOf_ok (by simp [r3raw_ok, r3times_ok])) Tryz.func158 rfl (by kernel_rfl) (by kernel_rfl) ?_
    (by intro args v h; unfold r4threeS at h; split at h <;> (try split at h) <;> simp at h)
  intro args v h
  unfold r4threeS at h
  split at h
  · rename_i a b c
    split at h
    · rename_i hc
      obtain ⟨ha, hb, hc⟩ := hc
      cases h
      refine ⟨by simp, by simp, by simp, ?_⟩
      have i0 : InW (a * b) := ((Bd.of ha).mul (Bd.of hb)).w (by decide)
      have i1 : InW (a * b * c) := (((Bd.of ha).mul (Bd.of hb)).mul (Bd.of hc)).w (by decide)
      simp [Tryz.f158, ha, hb, hc, fitI ha, fitI hb, fitI hc, i0, sval_limb i0, i1, R8_limb]
    · simp at h
  · simp at h
end Go.X
end

section
namespace Go.X
open Go.Proofs
attribute [local irreducible] Good
end Go.X
end

section
namespace Go.X
open Go.Proofs
attribute [local irreducible] Good
theorem InI_one : InI 4294967296 := by decide
theorem InI_zero : InI 0 := by decide
end Go.X
end

section
namespace Go.X
open Go.Proofs
attribute [local irreducible] Good
@[simp] theorem all_two {P : Nat → Prop} : (∀ i, i < 2 → P i) ↔ P 0 ∧ P 1 := by
  constructor
  · intro h; exact ⟨h 0 (by omega), h 1 (by omega)⟩
  · rintro ⟨h0, h1⟩ i hi
    have : i = 0 ∨ i = 1 := by omega
    rcases this with rfl | rfl <;> assumption
theorem bw2 {x y : Int} (hx : Bd 63 x) (hy : Bd 63 y) : Bd 126 (x * y) := hx.mul hy
theorem bw3 {x y z : Int} (hx : Bd 63 x) (hy : Bd 63 y) (hz : Bd 63 z) : Bd 189 (x * y * z) := (hx.mul hy).mul hz
theorem iw2 {x y : Int} (hx : Bd 63 x) (hy : Bd 63 y) : InW (x * y) := (bw2 hx hy).w (by decide)
theorem iw3 {x y z : Int} (hx : Bd 63 x) (hy : Bd 63 y) (hz : Bd 63 z) : InW (x * y * z) := (bw3 hx hy hz).w (by decide)
theorem iw33 {x y z p q r : Int} (hx : Bd 63 x) (hy : Bd 63 y) (hz : Bd 63 z) (hp : Bd 63 p) (hq : Bd 63 q) (hr : Bd 63 r) : InW (x * y * z + p * q * r) := ((bw3 hx hy hz).add (bw3 hp hq hr)).w (by decide)
theorem iw333 {x y z p q r s t u : Int} (hx : Bd 63 x) (hy : Bd 63 y) (hz : Bd 63 z) (hp : Bd 63 p) (hq : Bd 63 q) (hr : Bd 63 r) (hs : Bd 63 s) (ht : Bd 63 t) (hu : Bd 63 u) : InW (x * y * z + p * q * r + s * t * u) :=
  (((bw3 hx hy hz).add (bw3 hp hq hr)).add ((bw3 hs ht hu).mono (by decide))).w (by decide)
theorem sw2 {x y : Int} (hx : Bd 63 x) (hy : Bd 63 y) : sval (limb (x * y)) = x * y := sval_limb (iw2 hx hy)
theorem sw3 {x y z : Int} (hx : Bd 63 x) (hy : Bd 63 y) (hz : Bd 63 z) : sval (limb (x * y * z)) = x * y * z := sval_limb (iw3 hx hy hz)
theorem sw33 {x y z p q r : Int} (hx : Bd 63 x) (hy : Bd 63 y) (hz : Bd 63 z) (hp : Bd 63 p) (hq : Bd 63 q) (hr : Bd 63 r) : sval (limb (x * y * z + p * q * r)) = x * y * z + p * q * r := sval_limb (iw33 hx hy hz hp hq hr)
theorem sw333 {x y z p q r s t u : Int} (hx : Bd 63 x) (hy : Bd 63 y) (hz : Bd 63 z) (hp : Bd 63 p) (hq : Bd 63 q) (hr : Bd 63 r) (hs : Bd 63 s) (ht : Bd 63 t) (hu : Bd 63 u) : sval (limb (x * y * z + p * q * r + s * t * u)) = x * y * z + p * q * r + s * t * u :=
  sval_limb (iw333 hx hy hz hp hq hr hs ht hu)
noncomputable def veachAS : List AV → PR
  | [.agg [.int .i64 a, .int .i64 b, .int .i64 c], .agg [.int .i64 d, .int .i64 e, .int .i64 f], .fn 126 []] => open Classical in if InI a ∧ InI b ∧ InI c ∧ InI d ∧ InI e ∧ InI f then .val (.agg [.int .i64 (clampI (a + d)), .int .i64 (clampI (b + e)), .int .i64 (clampI (c + f))]) else .fail
  | _ => .fail
@[simp] theorem veachAS_val {a b c d e f : Int} (h : InI a ∧ InI b ∧ InI c ∧ InI d ∧ InI e ∧ InI f) : veachAS [.agg [.int .i64 a, .int .i64 b, .int .i64 c], .agg [.int .i64 d, .int .i64 e, .int .i64 f], .fn 126 []] = .val (.agg [.int .i64 (clampI (a + d)), .int .i64 (clampI (b + e)), .int .i64 (clampI (c + f))]) := if_pos h
theorem veachA_ok : SumOk Tryz.prog 57 (pureS veachAS) := by
  refine sum_fn (L := fun i => if i = 1 then some (.quiet 19) else none) (n := 1) (S := stOf [(126, pureS faddS)]) drawS Tryz.T_ok (stOf_ok (by simp [fadd_ok])) Tryz.func57 rfl (by kernel_rfl) (by kernel_rfl) ?_
    (by intro args v h; unfold veachAS at h; split at h <;> (try split at h) <;> simp at h)
  intro args v h
  unfold veachAS at h
  split at h
  · rename_i a b c d e f
    split at h
    · rename_i hc
      obtain ⟨ha, hb, hc, hd, he, hf⟩ := hc
      cases h
      refine ⟨by simp, by simp, by simp, ?_⟩
      simp [Tryz.f57, ha, hb, hc, hd, he, hf]
    · simp at h
  · simp at h
noncomputable def vAddS : List AV → PR
  | [.agg [.int .i64 a, .int .i64 b, .int .i64 c], .agg [.int .i64 d, .int .i64 e, .int .i64 f]] => open Classical in if InI a ∧ InI b ∧ InI c ∧ InI d ∧ InI e ∧ InI f then .val (.agg [.int .i64 (clampI (a + d)), .int .i64 (clampI (b + e)), .int .i64 (clampI (c + f))]) else .fail
  | _ => .fail
@[simp] theorem vAddS_val {a b c d e f : Int} (h : InI a ∧ InI b ∧ InI c ∧ InI d ∧ InI e ∧ InI f) : vAddS [.agg [.int .i64 a, .int .i64 b, .int .i64 c], .agg [.int .i64 d, .int .i64 e, .int .i64 f]] = .val (.agg [.int .i64 (clampI (a + d)), .int .i64 (clampI (b + e)), .int .i64 (clampI (c + f))]) := if_pos h
theorem vAdd_ok : SumOk Tryz.prog 68 (pureS vAddS) := by
  refine sum_fn (L := fun _ => none) (n := 1) (S := stOf [(126, pureS faddS), (57, pureS veachAS)]) drawS Tryz.T_ok (stOf_ok (by simp [fadd_ok, veachA_ok])) Tryz.func68 rfl (by kernel_rfl) (by kernel_rfl) ?_
    (by intro args v h; unfold vAddS at h; split at h <;> (try split at h) <;> simp at h)
  intro args v h
  unfold vAddS at h
  split at h
  · rename_i a b c d e f
    split at h
    · rename_i hc
      obtain ⟨ha, hb, hc, hd, he, hf⟩ := hc
      cases h
      refine ⟨by simp, by simp, by simp, ?_⟩
      simp [Tryz.f68, ha, hb, hc, hd, he, hf]
    · simp at h
  · simp at h
noncomputable def mbtw1S : Sum := fun args env _ => match args with
  | [.int .i64 i, .int .i64 k, .ptr p 0, .ptr q 0] => match env p, env q with
    | some ⟨[.arr .u64 8 n0, .arr .u64 8 n1, .arr .u64 8 n2, .arr .u64 8 n3, .arr .u64 8 n4, .arr .u64 8 n5, .arr .u64 8 n6, .arr .u64 8 n7, .arr .u64 8 n8], _⟩, some ⟨[.arr .u64 8 w0, .arr .u64 8 w1, .arr .u64 8 w2], _⟩ => open Classical in if R8 n0 ∧ R8 n1 ∧ R8 n2 ∧ R8 n3 ∧ R8 n4 ∧ R8 n5 ∧ R8 n6 ∧ R8 n7 ∧ R8 n8 ∧ R8 w0 ∧ R8 w1 ∧ R8 w2 ∧ 0 ≤ i ∧ i < 3 ∧ 0 ≤ k ∧ k < 3 ∧ Bd 63 (sval n0) ∧ Bd 63 (sval n1) ∧ Bd 63 (sval n2) ∧ Bd 63 (sval n3) ∧ Bd 63 (sval n4) ∧ Bd 63 (sval n5) ∧ Bd 63 (sval n6) ∧ Bd 63 (sval n7) ∧ Bd 63 (sval n8) ∧ Bd 63 (sval w0) ∧ Bd 63 (sval w1) ∧ Bd 63 (sval w2) ∧ p ≠ q then .val (.int .i64 (clampI ((mAt (sval n0) (sval n1) (sval n2) (sval n3) (sval n4) (sval n5) (sval n6) (sval n7) (sval n8) i 0 * sval w0 * mAt (sval n0) (sval n1) (sval n2) (sval n3) (sval n4) (sval n5) (sval n6) (sval n7) (sval n8) k 0 + mAt (sval n0) (sval n1) (sval n2) (sval n3) (sval n4) (sval n5) (sval n6) (sval n7) (sval n8) i 1 * sval w1 * mAt (sval n0) (sval n1) (sval n2) (sval n3) (sval n4) (sval n5) (sval n6) (sval n7) (sval n8) k 1 + mAt (sval n0) (sval n1) (sval n2) (sval n3) (sval n4) (sval n5) (sval n6) (sval n7) (sval n8) i 2 * sval w2 * mAt (sval n0) (sval n1) (sval n2) (sval n3) (sval n4) (sval n5) (sval n6) (sval n7) (sval n8) k 2) / 2 ^ 64))) [] [] else .fail
    | _, _ => .fail
  | _ => .fail
set_option maxHeartbeats 40000000 in
theorem mbtw1_ok : SumOk Tryz.prog 90 mbtw1S := by
  refine sum_read (L := fun i => if i = 5 then some (.quiet 17) else none) (n := 5) (S := stOf [(39, pureS finS), (91, pureS mplusS), (92, pureS mtimesS)]) drawS Tryz.T_ok (stOf_ok (by simp [fin_ok, mplus_ok, mtimes_ok])) Tryz.func90 rfl (by kernel_rfl) (by kernel_rfl) ?_
  intro args env nxt h
  unfold mbtw1S at h ⊢
  split at h
  · rename_i i k p q
    split at h
    · rename_i n0 n1 n2 n3 n4 n5 n6 n7 n8 ty0 w0 w1 w2 ty1 m0 m1
      split at h
      · rename_i hc
        obtain ⟨hn0, hn1, hn2, hn3, hn4, hn5, hn6, hn7, hn8, hw0, hw1, hw2, e0, e1, e2, e3, e4, e5, e6, e7, e8, e9, e10, e11, e12, e13, e14, e15, hne⟩ := id hc
        refine ⟨_, _, _, .int .i64 (clampI ((mAt (sval n0) (sval n1) (sval n2) (sval n3) (sval n4) (sval n5) (sval n6) (sval n7) (sval n8) i 0 * sval w0 * mAt (sval n0) (sval n1) (sval n2) (sval n3) (sval n4) (sval n5) (sval n6) (sval n7) (sval n8) k 0 + mAt (sval n0) (sval n1) (sval n2) (sval n3) (sval n4) (sval n5) (sval n6) (sval n7) (sval n8) i 1 * sval w1 * mAt (sval n0) (sval n1) (sval n2) (sval n3) (sval n4) (sval n5) (sval n6) (sval n7) (sval n8) k 1 + mAt (sval n0) (sval n1) (sval n2) (sval n3) (sval n4) (sval n5) (sval n6) (sval n7) (sval n8) i 2 * sval w2 * mAt (sval n0) (sval n1) (sval n2) (sval n3) (sval n4) (sval n5) (sval n6) (sval n7) (sval n8) k 2) / 2 ^ 64)), laid2 [.int .i64 i, .int .i64 k, .ptr 0 0, .ptr 1 0] rfl (by simp) m0 m1 hne rfl rfl, by first | exact if_pos hc | (simp only [m0, m1]; exact if_pos hc), by simp, by simp, ?_⟩
        rcases three_of e0 e1 with rfl | rfl | rfl <;> rcases three_of e2 e3 with rfl | rfl | rfl <;> simp (maxSteps := 10000000) [hn0, hn1, hn2, hn3, hn4, hn5, hn6, hn7, hn8, hw0, hw1, hw2, e0, e1, e2, e3, e4, e5, e6, e7, e8, e9, e10, e11, e12, e13, e14, e15, R8_limb, iw2, iw3, iw33, iw333, sw2, sw3, sw33, sw333, R8_zero, sval_zero, Tryz.f90, mAt]
      · simp at h
    · simp at h
  · simp at h
noncomputable def mBtwS : List AV → PR
  | [.agg [.int .i64 a1, .int .i64 a2, .int .i64 a3, .int .i64 b1, .int .i64 b2, .int .i64 b3, .int .i64 c1, .int .i64 c2, .int .i64 c3], .agg [.int .i64 x, .int .i64 y, .int .i64 z]] => open Classical in if InI a1 ∧ InI a2 ∧ InI a3 ∧ InI b1 ∧ InI b2 ∧ InI b3 ∧ InI c1 ∧ InI c2 ∧ InI c3 ∧ InI x ∧ InI y ∧ InI z then .val (.agg [.int .i64 (clampI ((a1 * x * a1 + a2 * y * a2 + a3 * z * a3) / 2 ^ 64)), .int .i64 (clampI ((a1 * x * b1 + a2 * y * b2 + a3 * z * b3) / 2 ^ 64)), .int .i64 (clampI ((a1 * x * c1 + a2 * y * c2 + a3 * z * c3) / 2 ^ 64)), .int .i64 (clampI ((b1 * x * a1 + b2 * y * a2 + b3 * z * a3) / 2 ^ 64)), .int .i64 (clampI ((b1 * x * b1 + b2 * y * b2 + b3 * z * b3) / 2 ^ 64)), .int .i64 (clampI ((b1 * x * c1 + b2 * y * c2 + b3 * z * c3) / 2 ^ 64)), .int .i64 (clampI ((c1 * x * a1 + c2 * y * a2 + c3 * z * a3) / 2 ^ 64)), .int .i64 (clampI ((c1 * x * b1 + c2 * y * b2 + c3 * z * b3) / 2 ^ 64)), .int .i64 (clampI ((c1 * x * c1 + c2 * y * c2 + c3 * z * c3) / 2 ^ 64))]) else .fail
  | _ => .fail
@[simp] theorem mBtwS_val {a1 a2 a3 b1 b2 b3 c1 c2 c3 x y z : Int} (h : InI a1 ∧ InI a2 ∧ InI a3 ∧ InI b1 ∧ InI b2 ∧ InI b3 ∧ InI c1 ∧ InI c2 ∧ InI c3 ∧ InI x ∧ InI y ∧ InI z) : mBtwS [.agg [.int .i64 a1, .int .i64 a2, .int .i64 a3, .int .i64 b1, .int .i64 b2, .int .i64 b3, .int .i64 c1, .int .i64 c2, .int .i64 c3], .agg [.int .i64 x, .int .i64 y, .int .i64 z]] = .val (.agg [.int .i64 (clampI ((a1 * x * a1 + a2 * y * a2 + a3 * z * a3) / 2 ^ 64)), .int .i64 (clampI ((a1 * x * b1 + a2 * y * b2 + a3 * z * b3) / 2 ^ 64)), .int .i64 (clampI ((a1 * x * c1 + a2 * y * c2 + a3 * z * c3) / 2 ^ 64)), .int .i64 (clampI ((b1 * x * a1 + b2 * y * a2 + b3 * z * a3) / 2 ^ 64)), .int .i64 (clampI ((b1 * x * b1 + b2 * y * b2 + b3 * z * b3) / 2 ^ 64)), .int .i64 (clampI ((b1 * x * c1 + b2 * y * c2 + b3 * z * c3) / 2 ^ 64)), .int .i64 (clampI ((c1 * x * a1 + c2 * y * a2 + c3 * z * a3) / 2 ^ 64)), .int .i64 (clampI ((c1 * x * b1 + c2 * y * b2 + c3 * z * b3) / 2 ^ 64)), .int .i64 (clampI ((c1 * x * c1 + c2 * y * c2 + c3 * z * c3) / 2 ^ 64))]) := if_pos h
set_option maxHeartbeats 40000000 in
theorem mBtw_ok : SumOk Tryz.prog 42 (pureS mBtwS) := by
  refine sum_fn (L := fun i => if i = 1 then some (.quiet 6) else none) (n := 5) (S := stOf [(88, pureS mrawsS), (89, pureS mrawS), (90, mbtw1S)]) drawS Tryz.T_ok (stOf_ok (by simp [mraws_ok, mraw_ok, mbtw1_ok])) Tryz.func42 rfl (by kernel_rfl) (by kernel_rfl) ?_
    (by intro args v h; unfold mBtwS at h; split at h <;> (try split at h) <;> simp at h)
  intro args v h
  unfold mBtwS at h
  split at h
  · rename_i a1 a2 a3 b1 b2 b3 c1 c2 c3 x y z
    split at h
    · rename_i hc
      obtain ⟨ha1, ha2, ha3, hb1, hb2, hb3, hc1, hc2, hc3, hx, hy, hz⟩ := hc
      cases h
      refine ⟨by simp, by simp, by simp, ?_⟩
      simp (maxSteps := 10000000) [Tryz.f42, ha1, ha2, ha3, hb1, hb2, hb3, hc1, hc2, hc3, hx, hy, hz, fitI ha1, fitI ha2, fitI ha3, fitI hb1, fitI hb2, fitI hb3, fitI hc1, fitI hc2, fitI hc3, fitI hx, fitI hy, fitI hz, R8_limb, mbtw1S, mAt, Bd.of ha1, Bd.of ha2, Bd.of ha3, Bd.of hb1, Bd.of hb2, Bd.of hb3, Bd.of hc1, Bd.of hc2, Bd.of hc3, Bd.of hx, Bd.of hy, Bd.of hz]
    · simp at h
  · simp at h
noncomputable def r4btw1S : List AV → PR
  | [.agg [.int .i64 a1, .int .i64 a2, .int .i64 a3, .int .i64 b1, .int .i64 b2, .int .i64 b3, .int .i64 c1, .int .i64 c2, .int .i64 c3], .agg [.int .i64 x, .int .i64 y, .int .i64 z], .int .i64 i, .int .i64 k] => open Classical in if InI a1 ∧ InI a2 ∧ InI a3 ∧ InI b1 ∧ InI b2 ∧ InI b3 ∧ InI c1 ∧ InI c2 ∧ InI c3 ∧ InI x ∧ InI y ∧ InI z ∧ 0 ≤ i ∧ i < 3 ∧ 0 ≤ k ∧ k < 3 then .val (.int .i64 (clampI ((mAt a1 a2 a3 b1 b2 b3 c1 c2 c3 i 0 * x * mAt a1 a2 a3 b1 b2 b3 c1 c2 c3 k 0 + mAt a1 a2 a3 b1 b2 b3 c1 c2 c3 i 1 * y * mAt a1 a2 a3 b1 b2 b3 c1 c2 c3 k 1 + mAt a1 a2 a3 b1 b2 b3 c1 c2 c3 i 2 * z * mAt a1 a2 a3 b1 b2 b3 c1 c2 c3 k 2) / 2 ^ 64))) else .fail
  | _ => .fail
@[simp] theorem r4btw1S_val {a1 a2 a3 b1 b2 b3 c1 c2 c3 x y z i k : Int} (h : InI a1 ∧ InI a2 ∧ InI a3 ∧ InI b1 ∧ InI b2 ∧ InI b3 ∧ InI c1 ∧ InI c2 ∧ InI c3 ∧ InI x ∧ InI y ∧ InI z ∧ 0 ≤ i ∧ i < 3 ∧ 0 ≤ k ∧ k < 3) : r4btw1S [.agg [.int .i64 a1, .int .i64 a2, .int .i64 a3, .int .i64 b1, .int .i64 b2, .int .i64 b3, .int .i64 c1, .int .i64 c2, .int .i64 c3], .agg [.int .i64 x, .int .i64 y, .int .i64 z], .int .i64 i, .int .i64 k] = .val (.int .i64 (clampI ((mAt a1 a2 a3 b1 b2 b3 c1 c2 c3 i 0 * x * mAt a1 a2 a3 b1 b2 b3 c1 c2 c3 k 0 + mAt a1 a2 a3 b1 b2 b3 c1 c2 c3 i 1 * y * mAt a1 a2 a3 b1 b2 b3 c1 c2 c3 k 1 + mAt a1 a2 a3 b1 b2 b3 c1 c2 c3 i 2 * z * mAt a1 a2 a3 b1 b2 b3 c1 c2 c3 k 2) / 2 ^ 64))) := if_pos h
set_option maxHeartbeats 4000000 in
theorem r4btw1_ok : SumOk Tryz.prog 108 (pureS r4btw1S) := by
  refine sum_fn (L := fun i => if i = 1 then some (.held 10 [4, 5, 6, 7]) else none) (n := 1) (S := stOf [(157, pureS r2inS), (97, pureS r3plusS), (158, pureS r4threeS)]) drawS Tryz.T_ok (stOf_ok (by simp [r2in_ok, r3plus_ok, r4three_ok])) Tryz.func108 rfl (by kernel_rfl) (by kernel_rfl) ?_
    (by intro args v h; unfold r4btw1S at h; split at h <;> (try split at h) <;> simp at h)
  intro args v h
  unfold r4btw1S at h
  split at h
  · rename_i a1 a2 a3 b1 b2 b3 c1 c2 c3 x y z i k
    split at h
    · rename_i hc
      obtain ⟨ha1, ha2, ha3, hb1, hb2, hb3, hc1, hc2, hc3, hx, hy, hz, e0, e1, e2, e3⟩ := hc
      cases h
      refine ⟨by simp, by simp, by simp, ?_⟩
      rcases three_of e0 e1 with rfl | rfl | rfl <;> rcases three_of e2 e3 with rfl | rfl | rfl <;> simp (maxSteps := 10000000) [ha1, ha2, ha3, hb1, hb2, hb3, hc1, hc2, hc3, hx, hy, hz, e0, e1, e2, e3, R8_limb, iw33, iw333, sw3, sw33, sw333, Bd.of ha1, Bd.of ha2, Bd.of ha3, Bd.of hb1, Bd.of hb2, Bd.of hb3, Bd.of hc1, Bd.of hc2, Bd.of hc3, Bd.of hx, Bd.of hy, Bd.of hz, Tryz.f108, mAt]
    · simp at h
  · simp at h
noncomputable def r4btwS : List AV → PR
  | [.agg [.int .i64 a1, .int .i64 a2, .int .i64 a3, .int .i64 b1, .int .i64 b2, .int .i64 b3, .int .i64 c1, .int .i64 c2, .int .i64 c3], .agg [.int .i64 x, .int .i64 y, .int .i64 z]] => open Classical in if InI a1 ∧ InI a2 ∧ InI a3 ∧ InI b1 ∧ InI b2 ∧ InI b3 ∧ InI c1 ∧ InI c2 ∧ InI c3 ∧ InI x ∧ InI y ∧ InI z then .val (.agg [.int .i64 (clampI ((a1 * x * a1 + a2 * y * a2 + a3 * z * a3) / 2 ^ 64)), .int .i64 (clampI ((a1 * x * b1 + a2 * y * b2 + a3 * z * b3) / 2 ^ 64)), .int .i64 (clampI ((a1 * x * c1 + a2 * y * c2 + a3 * z * c3) / 2 ^ 64)), .int .i64 (clampI ((b1 * x * a1 + b2 * y * a2 + b3 * z * a3) / 2 ^ 64)), .int .i64 (clampI ((b1 * x * b1 + b2 * y * b2 + b3 * z * b3) / 2 ^ 64)), .int .i64 (clampI ((b1 * x * c1 + b2 * y * c2 + b3 * z * c3) / 2 ^ 64)), .int .i64 (clampI ((c1 * x * a1 + c2 * y * a2 + c3 * z * a3) / 2 ^ 64)), .int .i64 (clampI ((c1 * x * b1 + c2 * y * b2 + c3 * z * b3) / 2 ^ 64)), .int .i64 (clampI ((c1 * x * c1 + c2 * y * c2 + c3 * z * c3) / 2 ^ 64))]) else .fail
  | _ => .fail
@[simp] theorem r4btwS_val {a1 a2 a3 b1 b2 b3 c1 c2 c3 x y z : Int} (h : InI a1 ∧ InI a2 ∧ InI a3 ∧ InI b1 ∧ InI b2 ∧ InI b3 ∧ InI c1 ∧ InI c2 ∧ InI c3 ∧ InI x ∧ InI y ∧ InI z) : r4btwS [.agg [.int .i64 a1, .int .i64 a2, .int .i64 a3, .int .i64 b1, .int .i64 b2, .int .i64 b3, .int .i64 c1, .int .i64 c2, .int .i64 c3], .agg [.int .i64 x, .int .i64 y, .int .i64 z]] = .val (.agg [.int .i64 (clampI ((a1 * x * a1 + a2 * y * a2 + a3 * z * a3) / 2 ^ 64)), .int .i64 (clampI ((a1 * x * b1 + a2 * y * b2 + a3 * z * b3) / 2 ^ 64)), .int .i64 (clampI ((a1 * x * c1 + a2 * y * c2 + a3 * z * c3) / 2 ^ 64)), .int .i64 (clampI ((b1 * x * a1 + b2 * y * a2 + b3 * z * a3) / 2 ^ 64)), .int .i64 (clampI ((b1 * x * b1 + b2 * y * b2 + b3 * z * b3) / 2 ^ 64)), .int .i64 (clampI ((b1 * x * c1 + b2 * y * c2 + b3 * z * c3) / 2 ^ 64)), .int .i64 (clampI ((c1 * x * a1 + c2 * y * a2 + c3 * z * a3) / 2 ^ 64)), .int .i64 (clampI ((c1 * x * b1 + c2 * y * b2 + c3 * z * b3) / 2 ^ 64)), .int .i64 (clampI ((c1 * x * c1 + c2 * y * c2 + c3 * z * c3) / 2 ^ 64))]) := if_pos h
set_option maxHeartbeats 4000000 in
theorem r4btw_ok : SumOk Tryz.prog 47 (pureS r4btwS) := by
  refine sum_fn (L := fun i => if i = 5 then some (.quiet 16) else none) (n := 5) (S := stOf [(108, pureS r4btw1S)]) drawS Tryz.T_ok (stOf_ok (by simp [r4btw1_ok])) Tryz.func47 rfl (by kernel_rfl) (by kernel_rfl) ?_
    (by intro args v h; unfold r4btwS at h; split at h <;> (try split at h) <;> simp at h)
  intro args v h
  unfold r4btwS at h
  split at h
  · rename_i a1 a2 a3 b1 b2 b3 c1 c2 c3 x y z
    split at h
    · rename_i hc
      obtain ⟨ha1, ha2, ha3, hb1, hb2, hb3, hc1, hc2, hc3, hx, hy, hz⟩ := hc
      cases h
      refine ⟨by simp, by simp, by simp, ?_⟩
      simp (maxSteps := 10000000) [Tryz.f47, ha1, ha2, ha3, hb1, hb2, hb3, hc1, hc2, hc3, hx, hy, hz, mAt]
    · simp at h
  · simp at h
end Go.X
end

section
namespace Go.X
open Go.Proofs
attribute [local irreducible] Good
attribute [simp] Tryz.T_172
attribute [simp] Tryz.T_212
def Inner (a : Int) : Prop := -9223372036854775807 < a ∧ a < 9223372036854775807
instance (a : Int) : Decidable (Inner a) := inferInstanceAs (Decidable (_ ∧ _))
@[simp] theorem quoI_nil {b : Int} : quoI 0 b = 0 := by unfold quoI; split <;> simp
@[simp] theorem clampI_nil : clampI 0 = 0 := by decide
noncomputable def fupDS : List AV → PR
  | [] => .val (.bool false)
  | _ => .fail
@[simp] theorem fupDS_val : fupDS [] = .val (.bool false) := rfl
theorem fupD_ok : SumOk Tryz.prog 192 (pureS fupDS) := by
  refine sum_fn (L := fun _ => none) (n := 1) (S := stOf []) drawS Tryz.T_ok (stOf_ok (by simp)) Tryz.func192 rfl (by kernel_rfl) (by kernel_rfl) ?_
    (by intro args v h; unfold fupDS at h; split at h <;> (try split at h) <;> simp at h)
  intro args v h
  unfold fupDS at h
  split at h
  · skip
    cases h
    refine ⟨by simp, by simp, by simp, ?_⟩
    simp [Tryz.f192]
  · simp at h
noncomputable def fquoDS : List AV → PR
  | [.arr .u64 8 f, .arr .u64 8 g] => open Classical in if R8 f ∧ R8 g ∧ sval g ≠ 0 ∧ InW (quoI (sval f) (sval g)) then .val (W (quoI (sval f) (sval g))) else .fail
  | _ => .fail
@[simp] theorem fquoDS_val {f g : Nat → Int} (h : R8 f ∧ R8 g ∧ sval g ≠ 0 ∧ InW (quoI (sval f) (sval g))) : fquoDS [.arr .u64 8 f, .arr .u64 8 g] = .val (W (quoI (sval f) (sval g))) := if_pos h
theorem fquoD_ok : SumOk Tryz.prog 181 (pureS fquoDS) := by
  refine sum_fn (L := fun i => if i = 3 then some (.quiet 3) else none) (n := 1) (S := stOf [(177, pureS fsumS), (192, pureS fupDS), (37, pureS divS), (35, pureS ofS), (70, pureS signS)]) drawS Tryz.T_ok (stOf_ok (by simp [fsum_ok, fupD_ok, div_ok, of_ok, sign_ok])) Tryz.func181 rfl (by kernel_rfl) (by kernel_rfl) ?_
    (by intro args v h; unfold fquoDS at h; split at h <;> (try split at h) <;> simp at h)
  intro args v h
  unfold fquoDS at h
  split at h
  · rename_i f g
    split at h
    · rename_i hc
      obtain ⟨hf, hg, e0, e1⟩ := hc
      cases h
      refine ⟨by simp, by simp, by simp, ?_⟩
      simp [Tryz.f181, hf, hg, e0, e1, quoV]
    · simp at h
  · simp at h
noncomputable def foverDS : List AV → PR
  | [.int .i64 a, .int .i64 b] => open Classical in if InI a ∧ InI b ∧ b ≠ 0 then .val (.int .i64 (clampI (quoI (a * 4294967296) b))) else .fail
  | _ => .fail
@[simp] theorem foverDS_val {a b : Int} (h : InI a ∧ InI b ∧ b ≠ 0) : foverDS [.int .i64 a, .int .i64 b] = .val (.int .i64 (clampI (quoI (a * 4294967296) b))) := if_pos h
theorem foverD_ok : SumOk Tryz.prog 138 (pureS foverDS) := by
  refine sum_fn (L := fun _ => none) (n := 1) (S := stOf [(181, pureS fquoDS), (178, pureS frawS), (79, pureS fwithinS), (59, pureS shlS)]) drawS Tryz.T_ok (stOf_ok (by simp [fquoD_ok, fraw_ok, fwithin_ok, shl_ok])) Tryz.func138 rfl (by kernel_rfl) (by kernel_rfl) ?_
    (by intro args v h; unfold foverDS at h; split at h <;> (try split at h) <;> simp at h)
  intro args v h
  unfold foverDS at h
  split at h
  · rename_i a b
    split at h
    · rename_i hc
      obtain ⟨ha, hb, e0⟩ := hc
      cases h
      refine ⟨by simp, by simp, by simp, ?_⟩
      have v : Bd 95 (a * 4294967296) := by simpa using (Bd.of ha).shl 32
      have i := v.w (by decide)
      have q := v.quo (by decide) e0
      simp [Tryz.f138, ha, hb, e0, fitI ha, fitI hb, R8_limb, shlV, fitV, i, sval_limb i, q, sval_limb q]
    · simp at h
  · simp at h
noncomputable def fDivS : List AV → PR
  | [.int .i64 a, .int .i64 b] => open Classical in if InI a ∧ InI b ∧ b ≠ 0 then .val (.int .i64 (clampI (quoI (a * 4294967296) b))) else .fail
  | _ => .fail
@[simp] theorem fDivS_val {a b : Int} (h : InI a ∧ InI b ∧ b ≠ 0) : fDivS [.int .i64 a, .int .i64 b] = .val (.int .i64 (clampI (quoI (a * 4294967296) b))) := if_pos h
theorem fDiv_ok : SumOk Tryz.prog 82 (pureS fDivS) := by
  refine sum_fn (L := fun _ => none) (n := 1) (S := stOf [(138, pureS foverDS)]) drawS Tryz.T_ok (stOf_ok (by simp [foverD_ok])) Tryz.func82 rfl (by kernel_rfl) (by kernel_rfl) ?_
    (by intro args v h; unfold fDivS at h; split at h <;> (try split at h) <;> simp at h)
  intro args v h
  unfold fDivS at h
  split at h
  · rename_i a b
    split at h
    · rename_i hc
      obtain ⟨ha, hb, e0⟩ := hc
      cases h
      refine ⟨by simp, by simp, by simp, ?_⟩
      simp [Tryz.f82, ha, hb, e0]
    · simp at h
  · simp at h
end Go.X
end
