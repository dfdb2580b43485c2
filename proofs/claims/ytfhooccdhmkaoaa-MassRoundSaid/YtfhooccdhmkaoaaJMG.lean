/- A diagonal between a matrix and it turned over; sums; signs of the determinant. -/
import Derived.Test.YtfhooccdhmkaoaaJMF
namespace Go.X
open Go.Proofs
attribute [local irreducible] Good

@[simp] theorem all_two {P : Nat → Prop} : (∀ i, i < 2 → P i) ↔ P 0 ∧ P 1 := by
  constructor
  · intro h; exact ⟨h 0 (by omega), h 1 (by omega)⟩
  · rintro ⟨h0, h1⟩ i hi
    have : i = 0 ∨ i = 1 := by omega
    rcases this with rfl | rfl <;> assumption
theorem bw2 {x y : Int} (hx : Bd 63 x) (hy : Bd 63 y) : Bd 126 (x * y) := hx.mul hy
theorem bw3 {x y z : Int} (hx : Bd 63 x) (hy : Bd 63 y) (hz : Bd 63 z) : Bd 189 (x * y * z) := (hx.mul hy).mul hz
theorem iw2 {x y : Int} (hx : Bd 63 x) (hy : Bd 63 y) : InW (x * y) := (bw2 hx hy).w (by decide)
theorem iw3 {x y z : Int} (hx : Bd 63 x) (hy : Bd 63 y) (hz : Bd 63 z) : InW (x * y * z) := (bw3 hx hy hz).w (by decide)
theorem iw33 {x y z p q r : Int} (hx : Bd 63 x) (hy : Bd 63 y) (hz : Bd 63 z) (hp : Bd 63 p) (hq : Bd 63 q) (hr : Bd 63 r) : InW (x * y * z + p * q * r) := ((bw3 hx hy hz).add (bw3 hp hq hr)).w (by decide)
theorem iw333 {x y z p q r s t u : Int} (hx : Bd 63 x) (hy : Bd 63 y) (hz : Bd 63 z) (hp : Bd 63 p) (hq : Bd 63 q) (hr : Bd 63 r) (hs : Bd 63 s) (ht : Bd 63 t) (hu : Bd 63 u) : InW (x * y * z + p * q * r + s * t * u) :=
  (((bw3 hx hy hz).add (bw3 hp hq hr)).add ((bw3 hs ht hu).mono (by decide))).w (by decide)
theorem sw2 {x y : Int} (hx : Bd 63 x) (hy : Bd 63 y) : sval (limb (x * y)) = x * y := sval_limb (iw2 hx hy)
theorem sw3 {x y z : Int} (hx : Bd 63 x) (hy : Bd 63 y) (hz : Bd 63 z) : sval (limb (x * y * z)) = x * y * z := sval_limb (iw3 hx hy hz)
theorem sw33 {x y z p q r : Int} (hx : Bd 63 x) (hy : Bd 63 y) (hz : Bd 63 z) (hp : Bd 63 p) (hq : Bd 63 q) (hr : Bd 63 r) : sval (limb (x * y * z + p * q * r)) = x * y * z + p * q * r := sval_limb (iw33 hx hy hz hp hq hr)
theorem sw333 {x y z p q r s t u : Int} (hx : Bd 63 x) (hy : Bd 63 y) (hz : Bd 63 z) (hp : Bd 63 p) (hq : Bd 63 q) (hr : Bd 63 r) (hs : Bd 63 s) (ht : Bd 63 t) (hu : Bd 63 u) : sval (limb (x * y * z + p * q * r + s * t * u)) = x * y * z + p * q * r + s * t * u :=
  sval_limb (iw333 hx hy hz hp hq hr hs ht hu)

noncomputable def veachAS : List AV → PR
  | [.agg [.int .i64 a, .int .i64 b, .int .i64 c], .agg [.int .i64 d, .int .i64 e, .int .i64 f], .fn 45 []] => open Classical in if InI a ∧ InI b ∧ InI c ∧ InI d ∧ InI e ∧ InI f then .val (.agg [.int .i64 (clampI (a + d)), .int .i64 (clampI (b + e)), .int .i64 (clampI (c + f))]) else .fail
  | _ => .fail
@[simp] theorem veachAS_val {a b c d e f : Int} (h : InI a ∧ InI b ∧ InI c ∧ InI d ∧ InI e ∧ InI f) : veachAS [.agg [.int .i64 a, .int .i64 b, .int .i64 c], .agg [.int .i64 d, .int .i64 e, .int .i64 f], .fn 45 []] = .val (.agg [.int .i64 (clampI (a + d)), .int .i64 (clampI (b + e)), .int .i64 (clampI (c + f))]) := if_pos h
theorem veachA_ok : SumOk Try.prog 142 (pureS veachAS) := by
  refine sum_fn (L := fun i => if i = 1 then some (.quiet 19) else none) (n := 1) (S := stOf [(45, pureS faddS)]) drawS Try.T_ok (stOf_ok (by simp [fadd_ok])) Try.func142 rfl (by kernel_rfl) (by kernel_rfl) ?_
    (by intro args v h; unfold veachAS at h; split at h <;> (try split at h) <;> simp at h)
  intro args v h
  unfold veachAS at h
  split at h
  · rename_i a b c d e f
    split at h
    · rename_i hc
      obtain ⟨ha, hb, hc, hd, he, hf⟩ := hc
      cases h
      refine ⟨by simp, by simp, by simp, ?_⟩
      simp [Try.f142, ha, hb, hc, hd, he, hf]
    · simp at h
  · simp at h

noncomputable def vAddS : List AV → PR
  | [.agg [.int .i64 a, .int .i64 b, .int .i64 c], .agg [.int .i64 d, .int .i64 e, .int .i64 f]] => open Classical in if InI a ∧ InI b ∧ InI c ∧ InI d ∧ InI e ∧ InI f then .val (.agg [.int .i64 (clampI (a + d)), .int .i64 (clampI (b + e)), .int .i64 (clampI (c + f))]) else .fail
  | _ => .fail
@[simp] theorem vAddS_val {a b c d e f : Int} (h : InI a ∧ InI b ∧ InI c ∧ InI d ∧ InI e ∧ InI f) : vAddS [.agg [.int .i64 a, .int .i64 b, .int .i64 c], .agg [.int .i64 d, .int .i64 e, .int .i64 f]] = .val (.agg [.int .i64 (clampI (a + d)), .int .i64 (clampI (b + e)), .int .i64 (clampI (c + f))]) := if_pos h
theorem vAdd_ok : SumOk Try.prog 80 (pureS vAddS) := by
  refine sum_fn (L := fun _ => none) (n := 1) (S := stOf [(45, pureS faddS), (142, pureS veachAS)]) drawS Try.T_ok (stOf_ok (by simp [fadd_ok, veachA_ok])) Try.func80 rfl (by kernel_rfl) (by kernel_rfl) ?_
    (by intro args v h; unfold vAddS at h; split at h <;> (try split at h) <;> simp at h)
  intro args v h
  unfold vAddS at h
  split at h
  · rename_i a b c d e f
    split at h
    · rename_i hc
      obtain ⟨ha, hb, hc, hd, he, hf⟩ := hc
      cases h
      refine ⟨by simp, by simp, by simp, ?_⟩
      simp [Try.f80, ha, hb, hc, hd, he, hf]
    · simp at h
  · simp at h

noncomputable def mAddS : List AV → PR
  | [.agg [.int .i64 a1, .int .i64 a2, .int .i64 a3, .int .i64 b1, .int .i64 b2, .int .i64 b3, .int .i64 c1, .int .i64 c2, .int .i64 c3], .agg [.int .i64 p1, .int .i64 p2, .int .i64 p3, .int .i64 q1, .int .i64 q2, .int .i64 q3, .int .i64 r1, .int .i64 r2, .int .i64 r3]] => open Classical in if InI a1 ∧ InI a2 ∧ InI a3 ∧ InI b1 ∧ InI b2 ∧ InI b3 ∧ InI c1 ∧ InI c2 ∧ InI c3 ∧ InI p1 ∧ InI p2 ∧ InI p3 ∧ InI q1 ∧ InI q2 ∧ InI q3 ∧ InI r1 ∧ InI r2 ∧ InI r3 then .val (.agg [.int .i64 (clampI (a1 + p1)), .int .i64 (clampI (a2 + p2)), .int .i64 (clampI (a3 + p3)), .int .i64 (clampI (b1 + q1)), .int .i64 (clampI (b2 + q2)), .int .i64 (clampI (b3 + q3)), .int .i64 (clampI (c1 + r1)), .int .i64 (clampI (c2 + r2)), .int .i64 (clampI (c3 + r3))]) else .fail
  | _ => .fail
@[simp] theorem mAddS_val {a1 a2 a3 b1 b2 b3 c1 c2 c3 p1 p2 p3 q1 q2 q3 r1 r2 r3 : Int} (h : InI a1 ∧ InI a2 ∧ InI a3 ∧ InI b1 ∧ InI b2 ∧ InI b3 ∧ InI c1 ∧ InI c2 ∧ InI c3 ∧ InI p1 ∧ InI p2 ∧ InI p3 ∧ InI q1 ∧ InI q2 ∧ InI q3 ∧ InI r1 ∧ InI r2 ∧ InI r3) : mAddS [.agg [.int .i64 a1, .int .i64 a2, .int .i64 a3, .int .i64 b1, .int .i64 b2, .int .i64 b3, .int .i64 c1, .int .i64 c2, .int .i64 c3], .agg [.int .i64 p1, .int .i64 p2, .int .i64 p3, .int .i64 q1, .int .i64 q2, .int .i64 q3, .int .i64 r1, .int .i64 r2, .int .i64 r3]] = .val (.agg [.int .i64 (clampI (a1 + p1)), .int .i64 (clampI (a2 + p2)), .int .i64 (clampI (a3 + p3)), .int .i64 (clampI (b1 + q1)), .int .i64 (clampI (b2 + q2)), .int .i64 (clampI (b3 + q3)), .int .i64 (clampI (c1 + r1)), .int .i64 (clampI (c2 + r2)), .int .i64 (clampI (c3 + r3))]) := if_pos h
noncomputable def r4addS : List AV → PR
  | [.agg [.int .i64 a1, .int .i64 a2, .int .i64 a3, .int .i64 b1, .int .i64 b2, .int .i64 b3, .int .i64 c1, .int .i64 c2, .int .i64 c3], .agg [.int .i64 p1, .int .i64 p2, .int .i64 p3, .int .i64 q1, .int .i64 q2, .int .i64 q3, .int .i64 r1, .int .i64 r2, .int .i64 r3]] => open Classical in if InI a1 ∧ InI a2 ∧ InI a3 ∧ InI b1 ∧ InI b2 ∧ InI b3 ∧ InI c1 ∧ InI c2 ∧ InI c3 ∧ InI p1 ∧ InI p2 ∧ InI p3 ∧ InI q1 ∧ InI q2 ∧ InI q3 ∧ InI r1 ∧ InI r2 ∧ InI r3 then .val (.agg [.int .i64 (clampI (a1 + p1)), .int .i64 (clampI (a2 + p2)), .int .i64 (clampI (a3 + p3)), .int .i64 (clampI (b1 + q1)), .int .i64 (clampI (b2 + q2)), .int .i64 (clampI (b3 + q3)), .int .i64 (clampI (c1 + r1)), .int .i64 (clampI (c2 + r2)), .int .i64 (clampI (c3 + r3))]) else .fail
  | _ => .fail
@[simp] theorem r4addS_val {a1 a2 a3 b1 b2 b3 c1 c2 c3 p1 p2 p3 q1 q2 q3 r1 r2 r3 : Int} (h : InI a1 ∧ InI a2 ∧ InI a3 ∧ InI b1 ∧ InI b2 ∧ InI b3 ∧ InI c1 ∧ InI c2 ∧ InI c3 ∧ InI p1 ∧ InI p2 ∧ InI p3 ∧ InI q1 ∧ InI q2 ∧ InI q3 ∧ InI r1 ∧ InI r2 ∧ InI r3) : r4addS [.agg [.int .i64 a1, .int .i64 a2, .int .i64 a3, .int .i64 b1, .int .i64 b2, .int .i64 b3, .int .i64 c1, .int .i64 c2, .int .i64 c3], .agg [.int .i64 p1, .int .i64 p2, .int .i64 p3, .int .i64 q1, .int .i64 q2, .int .i64 q3, .int .i64 r1, .int .i64 r2, .int .i64 r3]] = .val (.agg [.int .i64 (clampI (a1 + p1)), .int .i64 (clampI (a2 + p2)), .int .i64 (clampI (a3 + p3)), .int .i64 (clampI (b1 + q1)), .int .i64 (clampI (b2 + q2)), .int .i64 (clampI (b3 + q3)), .int .i64 (clampI (c1 + r1)), .int .i64 (clampI (c2 + r2)), .int .i64 (clampI (c3 + r3))]) := if_pos h
noncomputable def lawMatSumsS : List AV → PR
  | [.agg [.int .i64 a1, .int .i64 a2, .int .i64 a3, .int .i64 b1, .int .i64 b2, .int .i64 b3, .int .i64 c1, .int .i64 c2, .int .i64 c3], .agg [.int .i64 p1, .int .i64 p2, .int .i64 p3, .int .i64 q1, .int .i64 q2, .int .i64 q3, .int .i64 r1, .int .i64 r2, .int .i64 r3], .agg [.int .i64 x, .int .i64 y, .int .i64 z]] => open Classical in if InI a1 ∧ InI a2 ∧ InI a3 ∧ InI b1 ∧ InI b2 ∧ InI b3 ∧ InI c1 ∧ InI c2 ∧ InI c3 ∧ InI p1 ∧ InI p2 ∧ InI p3 ∧ InI q1 ∧ InI q2 ∧ InI q3 ∧ InI r1 ∧ InI r2 ∧ InI r3 ∧ InI x ∧ InI y ∧ InI z then .val (.bool true) else .fail
  | _ => .fail
@[simp] theorem lawMatSumsS_val {a1 a2 a3 b1 b2 b3 c1 c2 c3 p1 p2 p3 q1 q2 q3 r1 r2 r3 x y z : Int} (h : InI a1 ∧ InI a2 ∧ InI a3 ∧ InI b1 ∧ InI b2 ∧ InI b3 ∧ InI c1 ∧ InI c2 ∧ InI c3 ∧ InI p1 ∧ InI p2 ∧ InI p3 ∧ InI q1 ∧ InI q2 ∧ InI q3 ∧ InI r1 ∧ InI r2 ∧ InI r3 ∧ InI x ∧ InI y ∧ InI z) : lawMatSumsS [.agg [.int .i64 a1, .int .i64 a2, .int .i64 a3, .int .i64 b1, .int .i64 b2, .int .i64 b3, .int .i64 c1, .int .i64 c2, .int .i64 c3], .agg [.int .i64 p1, .int .i64 p2, .int .i64 p3, .int .i64 q1, .int .i64 q2, .int .i64 q3, .int .i64 r1, .int .i64 r2, .int .i64 r3], .agg [.int .i64 x, .int .i64 y, .int .i64 z]] = .val (.bool true) := if_pos h
noncomputable def mbtw1S : Sum := fun args env _ => match args with
  | [.int .i64 i, .int .i64 k, .ptr p 0, .ptr q 0] => match env p, env q with
    | some ⟨[.arr .u64 8 n0, .arr .u64 8 n1, .arr .u64 8 n2, .arr .u64 8 n3, .arr .u64 8 n4, .arr .u64 8 n5, .arr .u64 8 n6, .arr .u64 8 n7, .arr .u64 8 n8], _⟩, some ⟨[.arr .u64 8 w0, .arr .u64 8 w1, .arr .u64 8 w2], _⟩ => open Classical in if R8 n0 ∧ R8 n1 ∧ R8 n2 ∧ R8 n3 ∧ R8 n4 ∧ R8 n5 ∧ R8 n6 ∧ R8 n7 ∧ R8 n8 ∧ R8 w0 ∧ R8 w1 ∧ R8 w2 ∧ 0 ≤ i ∧ i < 3 ∧ 0 ≤ k ∧ k < 3 ∧ Bd 63 (sval n0) ∧ Bd 63 (sval n1) ∧ Bd 63 (sval n2) ∧ Bd 63 (sval n3) ∧ Bd 63 (sval n4) ∧ Bd 63 (sval n5) ∧ Bd 63 (sval n6) ∧ Bd 63 (sval n7) ∧ Bd 63 (sval n8) ∧ Bd 63 (sval w0) ∧ Bd 63 (sval w1) ∧ Bd 63 (sval w2) ∧ p ≠ q then .val (.int .i64 (clampI ((mAt (sval n0) (sval n1) (sval n2) (sval n3) (sval n4) (sval n5) (sval n6) (sval n7) (sval n8) i 0 * sval w0 * mAt (sval n0) (sval n1) (sval n2) (sval n3) (sval n4) (sval n5) (sval n6) (sval n7) (sval n8) k 0 + mAt (sval n0) (sval n1) (sval n2) (sval n3) (sval n4) (sval n5) (sval n6) (sval n7) (sval n8) i 1 * sval w1 * mAt (sval n0) (sval n1) (sval n2) (sval n3) (sval n4) (sval n5) (sval n6) (sval n7) (sval n8) k 1 + mAt (sval n0) (sval n1) (sval n2) (sval n3) (sval n4) (sval n5) (sval n6) (sval n7) (sval n8) i 2 * sval w2 * mAt (sval n0) (sval n1) (sval n2) (sval n3) (sval n4) (sval n5) (sval n6) (sval n7) (sval n8) k 2) / 2 ^ 64))) [] [] else .fail
    | _, _ => .fail
  | _ => .fail
set_option maxHeartbeats 40000000 in
theorem mbtw1_ok : SumOk Try.prog 61 mbtw1S := by
  refine sum_read (L := fun i => if i = 5 then some (.quiet 17) else none) (n := 5) (S := stOf [(64, pureS finS), (62, pureS mplusS), (63, pureS mtimesS)]) drawS Try.T_ok (stOf_ok (by simp [fin_ok, mplus_ok, mtimes_ok])) Try.func61 rfl (by kernel_rfl) (by kernel_rfl) ?_
  intro args env nxt h
  unfold mbtw1S at h ⊢
  split at h
  · rename_i i k p q
    split at h
    · rename_i n0 n1 n2 n3 n4 n5 n6 n7 n8 ty0 w0 w1 w2 ty1 m0 m1
      split at h
      · rename_i hc
        obtain ⟨hn0, hn1, hn2, hn3, hn4, hn5, hn6, hn7, hn8, hw0, hw1, hw2, e0, e1, e2, e3, e4, e5, e6, e7, e8, e9, e10, e11, e12, e13, e14, e15, hne⟩ := id hc
        refine ⟨_, _, _, .int .i64 (clampI ((mAt (sval n0) (sval n1) (sval n2) (sval n3) (sval n4) (sval n5) (sval n6) (sval n7) (sval n8) i 0 * sval w0 * mAt (sval n0) (sval n1) (sval n2) (sval n3) (sval n4) (sval n5) (sval n6) (sval n7) (sval n8) k 0 + mAt (sval n0) (sval n1) (sval n2) (sval n3) (sval n4) (sval n5) (sval n6) (sval n7) (sval n8) i 1 * sval w1 * mAt (sval n0) (sval n1) (sval n2) (sval n3) (sval n4) (sval n5) (sval n6) (sval n7) (sval n8) k 1 + mAt (sval n0) (sval n1) (sval n2) (sval n3) (sval n4) (sval n5) (sval n6) (sval n7) (sval n8) i 2 * sval w2 * mAt (sval n0) (sval n1) (sval n2) (sval n3) (sval n4) (sval n5) (sval n6) (sval n7) (sval n8) k 2) / 2 ^ 64)), laid2 [.int .i64 i, .int .i64 k, .ptr 0 0, .ptr 1 0] rfl (by simp) m0 m1 hne rfl rfl, by first | exact if_pos hc | (simp only [m0, m1]; exact if_pos hc), by simp, by simp, ?_⟩
        rcases three_of e0 e1 with rfl | rfl | rfl <;> rcases three_of e2 e3 with rfl | rfl | rfl <;> simp (maxSteps := 10000000) [hn0, hn1, hn2, hn3, hn4, hn5, hn6, hn7, hn8, hw0, hw1, hw2, e0, e1, e2, e3, e4, e5, e6, e7, e8, e9, e10, e11, e12, e13, e14, e15, R8_limb, iw2, iw3, iw33, iw333, sw2, sw3, sw33, sw333, R8_zero, sval_zero, Try.f61, mAt]
      · simp at h
    · simp at h
  · simp at h

noncomputable def mBtwS : List AV → PR
  | [.agg [.int .i64 a1, .int .i64 a2, .int .i64 a3, .int .i64 b1, .int .i64 b2, .int .i64 b3, .int .i64 c1, .int .i64 c2, .int .i64 c3], .agg [.int .i64 x, .int .i64 y, .int .i64 z]] => open Classical in if InI a1 ∧ InI a2 ∧ InI a3 ∧ InI b1 ∧ InI b2 ∧ InI b3 ∧ InI c1 ∧ InI c2 ∧ InI c3 ∧ InI x ∧ InI y ∧ InI z then .val (.agg [.int .i64 (clampI ((a1 * x * a1 + a2 * y * a2 + a3 * z * a3) / 2 ^ 64)), .int .i64 (clampI ((a1 * x * b1 + a2 * y * b2 + a3 * z * b3) / 2 ^ 64)), .int .i64 (clampI ((a1 * x * c1 + a2 * y * c2 + a3 * z * c3) / 2 ^ 64)), .int .i64 (clampI ((b1 * x * a1 + b2 * y * a2 + b3 * z * a3) / 2 ^ 64)), .int .i64 (clampI ((b1 * x * b1 + b2 * y * b2 + b3 * z * b3) / 2 ^ 64)), .int .i64 (clampI ((b1 * x * c1 + b2 * y * c2 + b3 * z * c3) / 2 ^ 64)), .int .i64 (clampI ((c1 * x * a1 + c2 * y * a2 + c3 * z * a3) / 2 ^ 64)), .int .i64 (clampI ((c1 * x * b1 + c2 * y * b2 + c3 * z * b3) / 2 ^ 64)), .int .i64 (clampI ((c1 * x * c1 + c2 * y * c2 + c3 * z * c3) / 2 ^ 64))]) else .fail
  | _ => .fail
@[simp] theorem mBtwS_val {a1 a2 a3 b1 b2 b3 c1 c2 c3 x y z : Int} (h : InI a1 ∧ InI a2 ∧ InI a3 ∧ InI b1 ∧ InI b2 ∧ InI b3 ∧ InI c1 ∧ InI c2 ∧ InI c3 ∧ InI x ∧ InI y ∧ InI z) : mBtwS [.agg [.int .i64 a1, .int .i64 a2, .int .i64 a3, .int .i64 b1, .int .i64 b2, .int .i64 b3, .int .i64 c1, .int .i64 c2, .int .i64 c3], .agg [.int .i64 x, .int .i64 y, .int .i64 z]] = .val (.agg [.int .i64 (clampI ((a1 * x * a1 + a2 * y * a2 + a3 * z * a3) / 2 ^ 64)), .int .i64 (clampI ((a1 * x * b1 + a2 * y * b2 + a3 * z * b3) / 2 ^ 64)), .int .i64 (clampI ((a1 * x * c1 + a2 * y * c2 + a3 * z * c3) / 2 ^ 64)), .int .i64 (clampI ((b1 * x * a1 + b2 * y * a2 + b3 * z * a3) / 2 ^ 64)), .int .i64 (clampI ((b1 * x * b1 + b2 * y * b2 + b3 * z * b3) / 2 ^ 64)), .int .i64 (clampI ((b1 * x * c1 + b2 * y * c2 + b3 * z * c3) / 2 ^ 64)), .int .i64 (clampI ((c1 * x * a1 + c2 * y * a2 + c3 * z * a3) / 2 ^ 64)), .int .i64 (clampI ((c1 * x * b1 + c2 * y * b2 + c3 * z * b3) / 2 ^ 64)), .int .i64 (clampI ((c1 * x * c1 + c2 * y * c2 + c3 * z * c3) / 2 ^ 64))]) := if_pos h
set_option maxHeartbeats 40000000 in
theorem mBtw_ok : SumOk Try.prog 22 (pureS mBtwS) := by
  refine sum_fn (L := fun i => if i = 1 then some (.quiet 6) else none) (n := 5) (S := stOf [(59, pureS mrawsS), (60, pureS mrawS), (61, mbtw1S)]) drawS Try.T_ok (stOf_ok (by simp [mraws_ok, mraw_ok, mbtw1_ok])) Try.func22 rfl (by kernel_rfl) (by kernel_rfl) ?_
    (by intro args v h; unfold mBtwS at h; split at h <;> (try split at h) <;> simp at h)
  intro args v h
  unfold mBtwS at h
  split at h
  · rename_i a1 a2 a3 b1 b2 b3 c1 c2 c3 x y z
    split at h
    · rename_i hc
      obtain ⟨ha1, ha2, ha3, hb1, hb2, hb3, hc1, hc2, hc3, hx, hy, hz⟩ := hc
      cases h
      refine ⟨by simp, by simp, by simp, ?_⟩
      simp (maxSteps := 10000000) [Try.f22, ha1, ha2, ha3, hb1, hb2, hb3, hc1, hc2, hc3, hx, hy, hz, fitI ha1, fitI ha2, fitI ha3, fitI hb1, fitI hb2, fitI hb3, fitI hc1, fitI hc2, fitI hc3, fitI hx, fitI hy, fitI hz, R8_limb, mbtw1S, mAt, Bd.of ha1, Bd.of ha2, Bd.of ha3, Bd.of hb1, Bd.of hb2, Bd.of hb3, Bd.of hc1, Bd.of hc2, Bd.of hc3, Bd.of hx, Bd.of hy, Bd.of hz]
    · simp at h
  · simp at h

noncomputable def r4btw1S : List AV → PR
  | [.agg [.int .i64 a1, .int .i64 a2, .int .i64 a3, .int .i64 b1, .int .i64 b2, .int .i64 b3, .int .i64 c1, .int .i64 c2, .int .i64 c3], .agg [.int .i64 x, .int .i64 y, .int .i64 z], .int .i64 i, .int .i64 k] => open Classical in if InI a1 ∧ InI a2 ∧ InI a3 ∧ InI b1 ∧ InI b2 ∧ InI b3 ∧ InI c1 ∧ InI c2 ∧ InI c3 ∧ InI x ∧ InI y ∧ InI z ∧ 0 ≤ i ∧ i < 3 ∧ 0 ≤ k ∧ k < 3 then .val (.int .i64 (clampI ((mAt a1 a2 a3 b1 b2 b3 c1 c2 c3 i 0 * x * mAt a1 a2 a3 b1 b2 b3 c1 c2 c3 k 0 + mAt a1 a2 a3 b1 b2 b3 c1 c2 c3 i 1 * y * mAt a1 a2 a3 b1 b2 b3 c1 c2 c3 k 1 + mAt a1 a2 a3 b1 b2 b3 c1 c2 c3 i 2 * z * mAt a1 a2 a3 b1 b2 b3 c1 c2 c3 k 2) / 2 ^ 64))) else .fail
  | _ => .fail
@[simp] theorem r4btw1S_val {a1 a2 a3 b1 b2 b3 c1 c2 c3 x y z i k : Int} (h : InI a1 ∧ InI a2 ∧ InI a3 ∧ InI b1 ∧ InI b2 ∧ InI b3 ∧ InI c1 ∧ InI c2 ∧ InI c3 ∧ InI x ∧ InI y ∧ InI z ∧ 0 ≤ i ∧ i < 3 ∧ 0 ≤ k ∧ k < 3) : r4btw1S [.agg [.int .i64 a1, .int .i64 a2, .int .i64 a3, .int .i64 b1, .int .i64 b2, .int .i64 b3, .int .i64 c1, .int .i64 c2, .int .i64 c3], .agg [.int .i64 x, .int .i64 y, .int .i64 z], .int .i64 i, .int .i64 k] = .val (.int .i64 (clampI ((mAt a1 a2 a3 b1 b2 b3 c1 c2 c3 i 0 * x * mAt a1 a2 a3 b1 b2 b3 c1 c2 c3 k 0 + mAt a1 a2 a3 b1 b2 b3 c1 c2 c3 i 1 * y * mAt a1 a2 a3 b1 b2 b3 c1 c2 c3 k 1 + mAt a1 a2 a3 b1 b2 b3 c1 c2 c3 i 2 * z * mAt a1 a2 a3 b1 b2 b3 c1 c2 c3 k 2) / 2 ^ 64))) := if_pos h
noncomputable def r4btwS : List AV → PR
  | [.agg [.int .i64 a1, .int .i64 a2, .int .i64 a3, .int .i64 b1, .int .i64 b2, .int .i64 b3, .int .i64 c1, .int .i64 c2, .int .i64 c3], .agg [.int .i64 x, .int .i64 y, .int .i64 z]] => open Classical in if InI a1 ∧ InI a2 ∧ InI a3 ∧ InI b1 ∧ InI b2 ∧ InI b3 ∧ InI c1 ∧ InI c2 ∧ InI c3 ∧ InI x ∧ InI y ∧ InI z then .val (.agg [.int .i64 (clampI ((a1 * x * a1 + a2 * y * a2 + a3 * z * a3) / 2 ^ 64)), .int .i64 (clampI ((a1 * x * b1 + a2 * y * b2 + a3 * z * b3) / 2 ^ 64)), .int .i64 (clampI ((a1 * x * c1 + a2 * y * c2 + a3 * z * c3) / 2 ^ 64)), .int .i64 (clampI ((b1 * x * a1 + b2 * y * a2 + b3 * z * a3) / 2 ^ 64)), .int .i64 (clampI ((b1 * x * b1 + b2 * y * b2 + b3 * z * b3) / 2 ^ 64)), .int .i64 (clampI ((b1 * x * c1 + b2 * y * c2 + b3 * z * c3) / 2 ^ 64)), .int .i64 (clampI ((c1 * x * a1 + c2 * y * a2 + c3 * z * a3) / 2 ^ 64)), .int .i64 (clampI ((c1 * x * b1 + c2 * y * b2 + c3 * z * b3) / 2 ^ 64)), .int .i64 (clampI ((c1 * x * c1 + c2 * y * c2 + c3 * z * c3) / 2 ^ 64))]) else .fail
  | _ => .fail
@[simp] theorem r4btwS_val {a1 a2 a3 b1 b2 b3 c1 c2 c3 x y z : Int} (h : InI a1 ∧ InI a2 ∧ InI a3 ∧ InI b1 ∧ InI b2 ∧ InI b3 ∧ InI c1 ∧ InI c2 ∧ InI c3 ∧ InI x ∧ InI y ∧ InI z) : r4btwS [.agg [.int .i64 a1, .int .i64 a2, .int .i64 a3, .int .i64 b1, .int .i64 b2, .int .i64 b3, .int .i64 c1, .int .i64 c2, .int .i64 c3], .agg [.int .i64 x, .int .i64 y, .int .i64 z]] = .val (.agg [.int .i64 (clampI ((a1 * x * a1 + a2 * y * a2 + a3 * z * a3) / 2 ^ 64)), .int .i64 (clampI ((a1 * x * b1 + a2 * y * b2 + a3 * z * b3) / 2 ^ 64)), .int .i64 (clampI ((a1 * x * c1 + a2 * y * c2 + a3 * z * c3) / 2 ^ 64)), .int .i64 (clampI ((b1 * x * a1 + b2 * y * a2 + b3 * z * a3) / 2 ^ 64)), .int .i64 (clampI ((b1 * x * b1 + b2 * y * b2 + b3 * z * b3) / 2 ^ 64)), .int .i64 (clampI ((b1 * x * c1 + b2 * y * c2 + b3 * z * c3) / 2 ^ 64)), .int .i64 (clampI ((c1 * x * a1 + c2 * y * a2 + c3 * z * a3) / 2 ^ 64)), .int .i64 (clampI ((c1 * x * b1 + c2 * y * b2 + c3 * z * b3) / 2 ^ 64)), .int .i64 (clampI ((c1 * x * c1 + c2 * y * c2 + c3 * z * c3) / 2 ^ 64))]) := if_pos h
noncomputable def lawMatBtwS : List AV → PR
  | [.agg [.int .i64 a1, .int .i64 a2, .int .i64 a3, .int .i64 b1, .int .i64 b2, .int .i64 b3, .int .i64 c1, .int .i64 c2, .int .i64 c3], .agg [.int .i64 x, .int .i64 y, .int .i64 z]] => open Classical in if InI a1 ∧ InI a2 ∧ InI a3 ∧ InI b1 ∧ InI b2 ∧ InI b3 ∧ InI c1 ∧ InI c2 ∧ InI c3 ∧ InI x ∧ InI y ∧ InI z then .val (.bool true) else .fail
  | _ => .fail
@[simp] theorem lawMatBtwS_val {a1 a2 a3 b1 b2 b3 c1 c2 c3 x y z : Int} (h : InI a1 ∧ InI a2 ∧ InI a3 ∧ InI b1 ∧ InI b2 ∧ InI b3 ∧ InI c1 ∧ InI c2 ∧ InI c3 ∧ InI x ∧ InI y ∧ InI z) : lawMatBtwS [.agg [.int .i64 a1, .int .i64 a2, .int .i64 a3, .int .i64 b1, .int .i64 b2, .int .i64 b3, .int .i64 c1, .int .i64 c2, .int .i64 c3], .agg [.int .i64 x, .int .i64 y, .int .i64 z]] = .val (.bool true) := if_pos h
end Go.X
