/- Package grid; lists; which points raise the rank. -/
import Derived.Test.YtpojeehijepmhaaGreatGT
import Derived.Test.YtpojeehijepmhaaGreatGY
import Derived.Test.YtpojeehijepmhaaGreatGB
import Derived.Test.YtpojeehijepmhaaGreatGM

section
namespace Go.X
open Go.Proofs
attribute [local irreducible] Good
attribute [simp] Tryz.T_148
attribute [simp] Tryz.T_205
attribute [simp] Tryz.T_198
def nearI (a : Int) : Int := (a + 32768) / 65536
theorem near_in {a : Int} (h : InI a) : InI (nearI a) := by unfold nearI InI at *; omega
theorem shr_i64 {a : Int} : shrA .i64 a 15 = a / 32768 ∧ shrA .i64 a 1 = a / 2 := by
  unfold shrA
  rw [Int.fdiv_eq_ediv_of_nonneg _ (by decide), Int.fdiv_eq_ediv_of_nonneg _ (by decide)]
  exact ⟨rfl, rfl⟩
def PtN (n : Int) : Prop := -268435456 ≤ n ∧ n ≤ 268435456
def Pt3 (x y z : Int) : Prop := PtN x ∧ PtN y ∧ PtN z
instance (n : Int) : Decidable (PtN n) := inferInstanceAs (Decidable (_ ∧ _))
instance (x y z : Int) : Decidable (Pt3 x y z) := inferInstanceAs (Decidable (_ ∧ _))
def SmN (a : Int) : Prop := -274877906944 ≤ a ∧ a ≤ 274877906944
theorem near_sm {a : Int} (h : SmN a) : -4194304 ≤ nearI a ∧ nearI a ≤ 4194304 := by unfold nearI SmN at *; omega
theorem sm_in {a : Int} (h : SmN a) : InI a := by unfold InI SmN at *; omega
theorem near_pt {a : Int} (h : SmN a) : PtN (nearI a) := by have := near_sm h; unfold PtN; omega
def crX (_x y z _u v w : Int) : Int := y * w - z * v
def crY (x _y z u _v w : Int) : Int := z * u - x * w
def crZ (x y _z u v _w : Int) : Int := x * v - y * u
def dtI (a b c x y z u v w : Int) : Int := crX x y z u v w * a + crY x y z u v w * b + crZ x y z u v w * c
theorem cr_bd {a b c d : Int} (ha : InI a) (hb : InI b) (hc : InI c) (hd : InI d) : Bd 127 (a * b - c * d) := ((Bd.of ha).mul (Bd.of hb)).sub ((Bd.of hc).mul (Bd.of hd))
noncomputable def gnearS : List AV → PR
  | [.int .i64 a] => open Classical in if InI a then .val (.int .i64 (nearI a)) else .fail
  | _ => .fail
@[simp] theorem gnearS_val {a : Int} (h : InI a) : gnearS [.int .i64 a] = .val (.int .i64 (nearI a)) := if_pos h
theorem gnear_ok : SumOk Tryz.prog 168 (pureS gnearS) := by
  refine sum_fn (L := fun _ => none) (n := 1) (S := stOf []) drawS Tryz.T_ok (stOf_ok (by simp)) Tryz.func168 rfl (by kernel_rfl) (by kernel_rfl) ?_
    (by intro args v h; unfold gnearS at h; split at h <;> (try split at h) <;> simp at h)
  intro args v h
  unfold gnearS at h
  split at h
  · rename_i a
    split at h
    · rename_i hc
      have ha := hc
      cases h
      refine ⟨by simp, by simp, by simp, ?_⟩
      have n1 : IntKind.i64.wrap (a / 32768 + 1) = a / 32768 + 1 := by unfold InI at ha; exact wrap_i64_in (by omega) (by omega)
      have n2 : (a / 32768 + 1) / 2 = nearI a := by unfold nearI; omega
      have n3 : InI (a / 32768 + 1) := by unfold InI at *; omega
      simp [Tryz.f168, n1, n2, shr_i64.1, shr_i64.2]
    · simp at h
  · simp at h
noncomputable def gCheckS : List AV → PR
  | [.agg [.int .i64 x, .int .i64 y, .int .i64 z]] => open Classical in if InI x ∧ InI y ∧ InI z then .val (.int .i64 (if Pt3 x y z then 0 else 7)) else .fail
  | _ => .fail
@[simp] theorem gCheckS_val {x y z : Int} (h : InI x ∧ InI y ∧ InI z) : gCheckS [.agg [.int .i64 x, .int .i64 y, .int .i64 z]] = .val (.int .i64 (if Pt3 x y z then 0 else 7)) := if_pos h
theorem gCheck_ok : SumOk Tryz.prog 169 (pureS gCheckS) := by
  refine sum_fn (L := fun _ => none) (n := 4) (S := stOf []) drawS Tryz.T_ok (stOf_ok (by simp)) Tryz.func169 rfl (by kernel_rfl) (by kernel_rfl) ?_
    (by intro args v h; unfold gCheckS at h; split at h <;> (try split at h) <;> simp at h)
  intro args v h
  unfold gCheckS at h
  split at h
  · rename_i x y z
    split at h
    · rename_i hc
      obtain ⟨hx, hy, hz⟩ := hc
      cases h
      refine ⟨by simp, by simp, by simp, ?_⟩
      by_cases k1 : PtN x
      · by_cases k2 : PtN y
        · by_cases k3 : PtN z
          · have q1 := id k1
            have q2 := id k2
            have q3 := id k3
            unfold PtN at q1 q2 q3
            simp [Tryz.f169, Pt3, k1, k2, k3, Int.not_lt.2 q1.1, Int.not_lt.2 q1.2, Int.not_lt.2 q2.1, Int.not_lt.2 q2.2, Int.not_lt.2 q3.1, Int.not_lt.2 q3.2]
          · have q1 := id k1
            have q2 := id k2
            unfold PtN at q1 q2
            rcases (show z < -268435456 ∨ (¬ z < -268435456 ∧ 268435456 < z) by unfold PtN at k3; omega) with q3 | q3 <;>
              simp [Tryz.f169, Pt3, k1, k2, k3, Int.not_lt.2 q1.1, Int.not_lt.2 q1.2, Int.not_lt.2 q2.1, Int.not_lt.2 q2.2, q3]
        · have q1 := id k1
          unfold PtN at q1
          rcases (show y < -268435456 ∨ (¬ y < -268435456 ∧ 268435456 < y) by unfold PtN at k2; omega) with q2 | q2 <;>
            simp [Tryz.f169, Pt3, k1, k2, Int.not_lt.2 q1.1, Int.not_lt.2 q1.2, q2]
      · rcases (show x < -268435456 ∨ (¬ x < -268435456 ∧ 268435456 < x) by unfold PtN at k1; omega) with q1 | q1 <;>
          simp [Tryz.f169, Pt3, k1, q1]
    · simp at h
  · simp at h
noncomputable def gRoundS : List AV → PR
  | [.agg [.int .i64 x, .int .i64 y, .int .i64 z]] => open Classical in if InI x ∧ InI y ∧ InI z ∧ SmN x ∧ SmN y ∧ SmN z then .val (.tup [.agg [.int .i64 (nearI x), .int .i64 (nearI y), .int .i64 (nearI z)], .int .i64 0]) else .fail
  | _ => .fail
@[simp] theorem gRoundS_val {x y z : Int} (h : InI x ∧ InI y ∧ InI z ∧ SmN x ∧ SmN y ∧ SmN z) : gRoundS [.agg [.int .i64 x, .int .i64 y, .int .i64 z]] = .val (.tup [.agg [.int .i64 (nearI x), .int .i64 (nearI y), .int .i64 (nearI z)], .int .i64 0]) := if_pos h
theorem gRound_ok : SumOk Tryz.prog 111 (pureS gRoundS) := by
  refine sum_fn (L := fun i => if i = 1 then some (.quiet 11) else none) (n := 1) (S := stOf [(169, pureS gCheckS), (168, pureS gnearS)]) drawS Tryz.T_ok (stOf_ok (by simp [gCheck_ok, gnear_ok])) Tryz.func111 rfl (by kernel_rfl) (by kernel_rfl) ?_
    (by intro args v h; unfold gRoundS at h; split at h <;> (try split at h) <;> simp at h)
  intro args v h
  unfold gRoundS at h
  split at h
  · rename_i x y z
    split at h
    · rename_i hc
      obtain ⟨hx, hy, hz, e0, e1, e2⟩ := hc
      cases h
      refine ⟨by simp, by simp, by simp, ?_⟩
      simp [Tryz.f111, hx, hy, hz, near_in hx, near_in hy, near_in hz, (show Pt3 (nearI x) (nearI y) (nearI z) from ⟨near_pt e0, near_pt e1, near_pt e2⟩)]
    · simp at h
  · simp at h
noncomputable def oLessS : List AV → PR
  | [.agg [.int .i64 x, .int .i64 y, .int .i64 z], .agg [.int .i64 u, .int .i64 v, .int .i64 w]] => open Classical in if InI x ∧ InI y ∧ InI z ∧ InI u ∧ InI v ∧ InI w ∧ InI (x - u) ∧ InI (y - v) ∧ InI (z - w) then .val (.agg [.int .i64 (x - u), .int .i64 (y - v), .int .i64 (z - w)]) else .fail
  | _ => .fail
@[simp] theorem oLessS_val {x y z u v w : Int} (h : InI x ∧ InI y ∧ InI z ∧ InI u ∧ InI v ∧ InI w ∧ InI (x - u) ∧ InI (y - v) ∧ InI (z - w)) : oLessS [.agg [.int .i64 x, .int .i64 y, .int .i64 z], .agg [.int .i64 u, .int .i64 v, .int .i64 w]] = .val (.agg [.int .i64 (x - u), .int .i64 (y - v), .int .i64 (z - w)]) := if_pos h
theorem oLess_ok : SumOk Tryz.prog 194 (pureS oLessS) := by
  refine sum_fn (L := fun _ => none) (n := 1) (S := stOf []) drawS Tryz.T_ok (stOf_ok (by simp)) Tryz.func194 rfl (by kernel_rfl) (by kernel_rfl) ?_
    (by intro args v h; unfold oLessS at h; split at h <;> (try split at h) <;> simp at h)
  intro args v h
  unfold oLessS at h
  split at h
  · rename_i x y z u v w
    split at h
    · rename_i hc
      obtain ⟨hx, hy, hz, hu, hv, hw, e0, e1, e2⟩ := hc
      cases h
      refine ⟨by simp, by simp, by simp, ?_⟩
      simp [Tryz.f194, wrap_i64_in e0.1 e0.2, wrap_i64_in e1.1 e1.2, wrap_i64_in e2.1 e2.2]
    · simp at h
  · simp at h
noncomputable def gOfS : List AV → PR
  | [.agg [.int .i64 x, .int .i64 y, .int .i64 z]] => open Classical in if InI x ∧ InI y ∧ InI z then .val (.agg [W (x), W (y), W (z)]) else .fail
  | _ => .fail
@[simp] theorem gOfS_val {x y z : Int} (h : InI x ∧ InI y ∧ InI z) : gOfS [.agg [.int .i64 x, .int .i64 y, .int .i64 z]] = .val (.agg [W (x), W (y), W (z)]) := if_pos h
theorem gOf_ok : SumOk Tryz.prog 198 (pureS gOfS) := by
  refine sum_fn (L := fun i => if i = 1 then some (.quiet 10) else none) (n := 1) (S := stOf [(35, pureS ofS)]) drawS Tryz.T_ok (stOf_ok (by simp [of_ok])) Tryz.func198 rfl (by kernel_rfl) (by kernel_rfl) ?_
    (by intro args v h; unfold gOfS at h; split at h <;> (try split at h) <;> simp at h)
  intro args v h
  unfold gOfS at h
  split at h
  · rename_i x y z
    split at h
    · rename_i hc
      obtain ⟨hx, hy, hz⟩ := hc
      cases h
      refine ⟨by simp, by simp, by simp, ?_⟩
      simp [Tryz.f198, ofS_in hx, ofS_in hy, ofS_in hz]
    · simp at h
  · simp at h
noncomputable def gtimesS : List AV → PR
  | [.arr .u64 8 f, .arr .u64 8 g] => open Classical in if R8 f ∧ R8 g ∧ InW (sval f * sval g) then .val (W (sval f * sval g)) else .fail
  | _ => .fail
@[simp] theorem gtimesS_val {f g : Nat → Int} (h : R8 f ∧ R8 g ∧ InW (sval f * sval g)) : gtimesS [.arr .u64 8 f, .arr .u64 8 g] = .val (W (sval f * sval g)) := if_pos h
theorem gtimes_ok : SumOk Tryz.prog 200 (pureS gtimesS) := by
  refine sum_fn (L := fun _ => none) (n := 1) (S := stOf [(69, pureS mulS)]) drawS Tryz.T_ok (stOf_ok (by simp [mul_ok])) Tryz.func200 rfl (by kernel_rfl) (by kernel_rfl) ?_
    (by intro args v h; unfold gtimesS at h; split at h <;> (try split at h) <;> simp at h)
  intro args v h
  unfold gtimesS at h
  split at h
  · rename_i f g
    split at h
    · rename_i hc
      obtain ⟨hf, hg, e0⟩ := hc
      cases h
      refine ⟨by simp, by simp, by simp, ?_⟩
      simp [Tryz.f200, hf, hg, e0, fitV]
    · simp at h
  · simp at h
noncomputable def glessS : List AV → PR
  | [.arr .u64 8 f, .arr .u64 8 g] => open Classical in if R8 f ∧ R8 g ∧ InW (sval f - sval g) then .val (W (sval f - sval g)) else .fail
  | _ => .fail
@[simp] theorem glessS_val {f g : Nat → Int} (h : R8 f ∧ R8 g ∧ InW (sval f - sval g)) : glessS [.arr .u64 8 f, .arr .u64 8 g] = .val (W (sval f - sval g)) := if_pos h
theorem gless_ok : SumOk Tryz.prog 199 (pureS glessS) := by
  refine sum_fn (L := fun _ => none) (n := 1) (S := stOf [(191, pureS subS)]) drawS Tryz.T_ok (stOf_ok (by simp [sub_ok])) Tryz.func199 rfl (by kernel_rfl) (by kernel_rfl) ?_
    (by intro args v h; unfold glessS at h; split at h <;> (try split at h) <;> simp at h)
  intro args v h
  unfold glessS at h
  split at h
  · rename_i f g
    split at h
    · rename_i hc
      obtain ⟨hf, hg, e0⟩ := hc
      cases h
      refine ⟨by simp, by simp, by simp, ?_⟩
      simp [Tryz.f199, hf, hg, e0, fitV]
    · simp at h
  · simp at h
noncomputable def gCrossS : List AV → PR
  | [.agg [.int .i64 x, .int .i64 y, .int .i64 z], .agg [.int .i64 u, .int .i64 v, .int .i64 w]] => open Classical in if InI x ∧ InI y ∧ InI z ∧ InI u ∧ InI v ∧ InI w then .val (.agg [W (crX x y z u v w), W (crY x y z u v w), W (crZ x y z u v w)]) else .fail
  | _ => .fail
@[simp] theorem gCrossS_val {x y z u v w : Int} (h : InI x ∧ InI y ∧ InI z ∧ InI u ∧ InI v ∧ InI w) : gCrossS [.agg [.int .i64 x, .int .i64 y, .int .i64 z], .agg [.int .i64 u, .int .i64 v, .int .i64 w]] = .val (.agg [W (crX x y z u v w), W (crY x y z u v w), W (crZ x y z u v w)]) := if_pos h
set_option maxHeartbeats 4000000 in
theorem gCross_ok : SumOk Tryz.prog 193 (pureS gCrossS) := by
  refine sum_fn (L := fun i => if i = 1 then some (.quiet 6) else if i = 2 then some (.quiet 34) else none) (n := 1) (S := stOf [(199, pureS glessS), (198, pureS gOfS), (200, pureS gtimesS)]) drawS Tryz.T_ok (stOf_ok (by simp [gless_ok, gOf_ok, gtimes_ok])) Tryz.func193 rfl (by kernel_rfl) (by kernel_rfl) ?_
    (by intro args v h; unfold gCrossS at h; split at h <;> (try split at h) <;> simp at h)
  intro args v h
  unfold gCrossS at h
  split at h
  · rename_i x y z u v w
    split at h
    · rename_i hc
      obtain ⟨hx, hy, hz, hu, hv, hw⟩ := hc
      cases h
      refine ⟨by simp, by simp, by simp, ?_⟩
      have s1 := fun {a : Int} (h : InI a) => sval_limb h.w
      have w0 : InW (y * w) := ((Bd.of hy).mul (Bd.of hw)).w (by decide)
      have w1 : InW (z * v) := ((Bd.of hz).mul (Bd.of hv)).w (by decide)
      have w2 : InW (z * u) := ((Bd.of hz).mul (Bd.of hu)).w (by decide)
      have w3 : InW (x * w) := ((Bd.of hx).mul (Bd.of hw)).w (by decide)
      have w4 : InW (x * v) := ((Bd.of hx).mul (Bd.of hv)).w (by decide)
      have w5 : InW (y * u) := ((Bd.of hy).mul (Bd.of hu)).w (by decide)
      have w6 : InW (y * w - z * v) := (((Bd.of hy).mul (Bd.of hw)).sub ((Bd.of hz).mul (Bd.of hv))).w (by decide)
      have w7 : InW (z * u - x * w) := (((Bd.of hz).mul (Bd.of hu)).sub ((Bd.of hx).mul (Bd.of hw))).w (by decide)
      have w8 : InW (x * v - y * u) := (((Bd.of hx).mul (Bd.of hv)).sub ((Bd.of hy).mul (Bd.of hu))).w (by decide)
      simp [Tryz.f193, hx, hy, hz, hu, hv, hw, fitI hx, fitI hy, fitI hz, fitI hu, fitI hv, fitI hw, R8_limb, w0, sval_limb w0, w1, sval_limb w1, w2, sval_limb w2, w3, sval_limb w3, w4, sval_limb w4, w5, sval_limb w5, w6, w7, w8, crX, crY, crZ]
    · simp at h
  · simp at h
noncomputable def r6nearS : List AV → PR
  | [.int .i64 a] => open Classical in if InI a then .val (.int .i64 (nearI a)) else .fail
  | _ => .fail
@[simp] theorem r6nearS_val {a : Int} (h : InI a) : r6nearS [.int .i64 a] = .val (.int .i64 (nearI a)) := if_pos h
theorem r6near_ok : SumOk Tryz.prog 171 (pureS r6nearS) := by
  refine sum_fn (L := fun _ => none) (n := 1) (S := stOf []) drawS Tryz.T_ok (stOf_ok (by simp)) Tryz.func171 rfl (by kernel_rfl) (by kernel_rfl) ?_
    (by intro args v h; unfold r6nearS at h; split at h <;> (try split at h) <;> simp at h)
  intro args v h
  unfold r6nearS at h
  split at h
  · rename_i a
    split at h
    · rename_i hc
      have ha := hc
      cases h
      refine ⟨by simp, by simp, by simp, ?_⟩
      have d1 : a.tdiv 65536 = if 0 ≤ a then a / 65536 else -((-a) / 65536) := by
        split
        · rename_i h0; exact Int.tdiv_eq_ediv_of_nonneg h0
        · have e : a = -(-a) := by omega
          rw [e, Int.neg_tdiv, Int.tdiv_eq_ediv_of_nonneg (by omega)]; simp
      have d2 : a.tmod 65536 = a - 65536 * a.tdiv 65536 := by have := Int.mul_tdiv_add_tmod a 65536; omega
      obtain ⟨q, hq⟩ : ∃ q, a.tdiv 65536 = q := ⟨_, rfl⟩
      obtain ⟨r, hr⟩ : ∃ r, a.tmod 65536 = r := ⟨_, rfl⟩
      rw [hq] at d1 d2
      rw [hr] at d2
      have jq : InI q := by unfold InI at *; split at d1 <;> omega
      have wq : IntKind.i64.wrap q = q := wrap_i64_in jq.1 jq.2
      have wr : IntKind.i64.wrap r = r := by unfold InI at *; exact wrap_i64_in (by split at d1 <;> omega) (by split at d1 <;> omega)
      by_cases r0 : r < 0
      · have w1 : IntKind.i64.wrap (q - 1) = q - 1 := by unfold InI at *; exact wrap_i64_in (by split at d1 <;> omega) (by split at d1 <;> omega)
        have w2 : IntKind.i64.wrap (r + 65536) = r + 65536 := by unfold InI at *; exact wrap_i64_in (by split at d1 <;> omega) (by split at d1 <;> omega)
        by_cases r1 : 32768 ≤ r + 65536
        · have w3 : IntKind.i64.wrap (q - 1 + 1) = q := by rw [show q - 1 + 1 = q by omega]; exact wq
          have e1 : nearI a = q := by unfold nearI; split at d1 <;> omega
          simp [Tryz.f171, hq, hr, wq, r0, w1, w2, r1, e1]
        · have e1 : nearI a = q - 1 := by unfold nearI; split at d1 <;> omega
          simp [Tryz.f171, hq, hr, wq, r0, w1, w2, r1, e1]
      · by_cases r1 : 32768 ≤ r
        · have w3 : IntKind.i64.wrap (q + 1) = q + 1 := by unfold InI at *; exact wrap_i64_in (by split at d1 <;> omega) (by split at d1 <;> omega)
          have e1 : nearI a = q + 1 := by unfold nearI; split at d1 <;> omega
          simp [Tryz.f171, hq, hr, wq, r0, r1, w3, e1]
        · have e1 : nearI a = q := by unfold nearI; split at d1 <;> omega
          simp [Tryz.f171, hq, hr, wq, r0, r1, e1]
    · simp at h
  · simp at h
noncomputable def r6mayS : List AV → PR
  | [.int .i64 n] => open Classical in if InI n then .val (.bool (decide (PtN n))) else .fail
  | _ => .fail
@[simp] theorem r6mayS_val {n : Int} (h : InI n) : r6mayS [.int .i64 n] = .val (.bool (decide (PtN n))) := if_pos h
theorem r6may_ok : SumOk Tryz.prog 187 (pureS r6mayS) := by
  refine sum_fn (L := fun _ => none) (n := 1) (S := stOf []) drawS Tryz.T_ok (stOf_ok (by simp)) Tryz.func187 rfl (by kernel_rfl) (by kernel_rfl) ?_
    (by intro args v h; unfold r6mayS at h; split at h <;> (try split at h) <;> simp at h)
  intro args v h
  unfold r6mayS at h
  split at h
  · rename_i n
    split at h
    · rename_i hc
      have hn := hc
      cases h
      refine ⟨by simp, by simp, by simp, ?_⟩
      by_cases k1 : -268435456 ≤ n
      · by_cases k2 : n ≤ 268435456 <;> simp [Tryz.f187, PtN, k1, k2]
      · simp [Tryz.f187, PtN, k1]
    · simp at h
  · simp at h
noncomputable def r6CheckS : List AV → PR
  | [.agg [.int .i64 x, .int .i64 y, .int .i64 z]] => open Classical in if InI x ∧ InI y ∧ InI z then .val (.int .i64 (if Pt3 x y z then 0 else 7)) else .fail
  | _ => .fail
@[simp] theorem r6CheckS_val {x y z : Int} (h : InI x ∧ InI y ∧ InI z) : r6CheckS [.agg [.int .i64 x, .int .i64 y, .int .i64 z]] = .val (.int .i64 (if Pt3 x y z then 0 else 7)) := if_pos h
theorem r6Check_ok : SumOk Tryz.prog 172 (pureS r6CheckS) := by
  refine sum_fn (L := fun _ => none) (n := 1) (S := stOf [(187, pureS r6mayS)]) drawS Tryz.T_ok (stOf_ok (by simp [r6may_ok])) Tryz.func172 rfl (by kernel_rfl) (by kernel_rfl) ?_
    (by intro args v h; unfold r6CheckS at h; split at h <;> (try split at h) <;> simp at h)
  intro args v h
  unfold r6CheckS at h
  split at h
  · rename_i x y z
    split at h
    · rename_i hc
      obtain ⟨hx, hy, hz⟩ := hc
      cases h
      refine ⟨by simp, by simp, by simp, ?_⟩
      by_cases k1 : PtN x
      · by_cases k2 : PtN y
        · by_cases k3 : PtN z <;> simp [hx, hy, hz, Tryz.f172, Pt3, k1, k2, k3]
        · simp [hx, hy, Tryz.f172, Pt3, k1, k2]
      · simp [hx, Tryz.f172, Pt3, k1]
    · simp at h
  · simp at h
noncomputable def r6RoundS : List AV → PR
  | [.agg [.int .i64 x, .int .i64 y, .int .i64 z]] => open Classical in if InI x ∧ InI y ∧ InI z ∧ SmN x ∧ SmN y ∧ SmN z then .val (.tup [.agg [.int .i64 (nearI x), .int .i64 (nearI y), .int .i64 (nearI z)], .int .i64 0]) else .fail
  | _ => .fail
@[simp] theorem r6RoundS_val {x y z : Int} (h : InI x ∧ InI y ∧ InI z ∧ SmN x ∧ SmN y ∧ SmN z) : r6RoundS [.agg [.int .i64 x, .int .i64 y, .int .i64 z]] = .val (.tup [.agg [.int .i64 (nearI x), .int .i64 (nearI y), .int .i64 (nearI z)], .int .i64 0]) := if_pos h
theorem r6Round_ok : SumOk Tryz.prog 116 (pureS r6RoundS) := by
  refine sum_fn (L := fun i => if i = 1 then some (.quiet 11) else none) (n := 1) (S := stOf [(172, pureS r6CheckS), (171, pureS r6nearS)]) drawS Tryz.T_ok (stOf_ok (by simp [r6Check_ok, r6near_ok])) Tryz.func116 rfl (by kernel_rfl) (by kernel_rfl) ?_
    (by intro args v h; unfold r6RoundS at h; split at h <;> (try split at h) <;> simp at h)
  intro args v h
  unfold r6RoundS at h
  split at h
  · rename_i x y z
    split at h
    · rename_i hc
      obtain ⟨hx, hy, hz, e0, e1, e2⟩ := hc
      cases h
      refine ⟨by simp, by simp, by simp, ?_⟩
      simp [Tryz.f116, hx, hy, hz, near_in hx, near_in hy, near_in hz, (show Pt3 (nearI x) (nearI y) (nearI z) from ⟨near_pt e0, near_pt e1, near_pt e2⟩)]
    · simp at h
  · simp at h
noncomputable def r6mulS : List AV → PR
  | [.int .i64 x, .int .i64 y] => open Classical in if InI x ∧ InI y then .val (W (x * y)) else .fail
  | _ => .fail
@[simp] theorem r6mulS_val {x y : Int} (h : InI x ∧ InI y) : r6mulS [.int .i64 x, .int .i64 y] = .val (W (x * y)) := if_pos h
theorem r6mul_ok : SumOk Tryz.prog 196 (pureS r6mulS) := by
  refine sum_fn (L := fun _ => none) (n := 1) (S := stOf [(100, pureS ofS), (95, pureS r3timesS)]) drawS Tryz.T_ok (stOf_ok (by simp [small_ok, r3times_ok])) Tryz.func196 rfl (by kernel_rfl) (by kernel_rfl) ?_
    (by intro args v h; unfold r6mulS at h; split at h <;> (try split at h) <;> simp at h)
  intro args v h
  unfold r6mulS at h
  split at h
  · rename_i x y
    split at h
    · rename_i hc
      obtain ⟨hx, hy⟩ := hc
      cases h
      refine ⟨by simp, by simp, by simp, ?_⟩
      have w0 : InW (x * y) := ((Bd.of hx).mul (Bd.of hy)).w (by decide)
      simp [Tryz.f196, fitI hx, fitI hy, ofS_in hx, ofS_in hy, R8_limb, w0]
    · simp at h
  · simp at h
noncomputable def r6CrossS : List AV → PR
  | [.agg [.int .i64 x, .int .i64 y, .int .i64 z], .agg [.int .i64 u, .int .i64 v, .int .i64 w]] => open Classical in if InI x ∧ InI y ∧ InI z ∧ InI u ∧ InI v ∧ InI w then .val (.agg [W (crX x y z u v w), W (crY x y z u v w), W (crZ x y z u v w)]) else .fail
  | _ => .fail
@[simp] theorem r6CrossS_val {x y z u v w : Int} (h : InI x ∧ InI y ∧ InI z ∧ InI u ∧ InI v ∧ InI w) : r6CrossS [.agg [.int .i64 x, .int .i64 y, .int .i64 z], .agg [.int .i64 u, .int .i64 v, .int .i64 w]] = .val (.agg [W (crX x y z u v w), W (crY x y z u v w), W (crZ x y z u v w)]) := if_pos h
set_option maxHeartbeats 4000000 in
theorem r6Cross_ok : SumOk Tryz.prog 188 (pureS r6CrossS) := by
  refine sum_fn (L := fun i => if i = 1 then some (.quiet 34) else none) (n := 1) (S := stOf [(107, pureS r3lessS), (196, pureS r6mulS)]) drawS Tryz.T_ok (stOf_ok (by simp [r3less_ok, r6mul_ok])) Tryz.func188 rfl (by kernel_rfl) (by kernel_rfl) ?_
    (by intro args v h; unfold r6CrossS at h; split at h <;> (try split at h) <;> simp at h)
  intro args v h
  unfold r6CrossS at h
  split at h
  · rename_i x y z u v w
    split at h
    · rename_i hc
      obtain ⟨hx, hy, hz, hu, hv, hw⟩ := hc
      cases h
      refine ⟨by simp, by simp, by simp, ?_⟩
      have w0 : InW (y * w) := ((Bd.of hy).mul (Bd.of hw)).w (by decide)
      have w1 : InW (z * v) := ((Bd.of hz).mul (Bd.of hv)).w (by decide)
      have w2 : InW (z * u) := ((Bd.of hz).mul (Bd.of hu)).w (by decide)
      have w3 : InW (x * w) := ((Bd.of hx).mul (Bd.of hw)).w (by decide)
      have w4 : InW (x * v) := ((Bd.of hx).mul (Bd.of hv)).w (by decide)
      have w5 : InW (y * u) := ((Bd.of hy).mul (Bd.of hu)).w (by decide)
      have w6 : InW (y * w - z * v) := (((Bd.of hy).mul (Bd.of hw)).sub ((Bd.of hz).mul (Bd.of hv))).w (by decide)
      have w7 : InW (z * u - x * w) := (((Bd.of hz).mul (Bd.of hu)).sub ((Bd.of hx).mul (Bd.of hw))).w (by decide)
      have w8 : InW (x * v - y * u) := (((Bd.of hx).mul (Bd.of hv)).sub ((Bd.of hy).mul (Bd.of hu))).w (by decide)
      simp [Tryz.f188, hx, hy, hz, hu, hv, hw, R8_limb, sval_limb w0, sval_limb w1, sval_limb w2, sval_limb w3, sval_limb w4, sval_limb w5, w6, w7, w8, crX, crY, crZ]
    · simp at h
  · simp at h
noncomputable def r6threeS : List AV → PR
  | [.int .i64 x, .int .i64 y, .int .i64 z] => open Classical in if InI x ∧ InI y ∧ InI z then .val (W (x * y * z)) else .fail
  | _ => .fail
@[simp] theorem r6threeS_val {x y z : Int} (h : InI x ∧ InI y ∧ InI z) : r6threeS [.int .i64 x, .int .i64 y, .int .i64 z] = .val (W (x * y * z)) := if_pos h
theorem r6three_ok : SumOk Tryz.prog 197 (pureS r6threeS) := by
  refine sum_fn (L := fun _ => none) (n := 1) (S := stOf [(100, pureS ofS), (95, pureS r3timesS), (196, pureS r6mulS)]) drawS Tryz.T_ok (stOf_ok (by simp [small_ok, r3times_ok, r6mul_ok])) Tryz.func197 rfl (by kernel_rfl) (by kernel_rfl) ?_
    (by intro args v h; unfold r6threeS at h; split at h <;> (try split at h) <;> simp at h)
  intro args v h
  unfold r6threeS at h
  split at h
  · rename_i x y z
    split at h
    · rename_i hc
      obtain ⟨hx, hy, hz⟩ := hc
      cases h
      refine ⟨by simp, by simp, by simp, ?_⟩
      have w0 : InW (x * y) := ((Bd.of hx).mul (Bd.of hy)).w (by decide)
      have w1 : InW (x * y * z) := (((Bd.of hx).mul (Bd.of hy)).mul (Bd.of hz)).w (by decide)
      simp [Tryz.f197, hx, hy, fitI hz, ofS_in hz, R8_limb, w1, sval_limb w0]
    · simp at h
  · simp at h
noncomputable def r7LessS : List AV → PR
  | [.agg [.int .i64 x, .int .i64 y, .int .i64 z], .agg [.int .i64 u, .int .i64 v, .int .i64 w]] => open Classical in if InI x ∧ InI y ∧ InI z ∧ InI u ∧ InI v ∧ InI w ∧ InI (x - u) ∧ InI (y - v) ∧ InI (z - w) then .val (.agg [.int .i64 (x - u), .int .i64 (y - v), .int .i64 (z - w)]) else .fail
  | _ => .fail
@[simp] theorem r7LessS_val {x y z u v w : Int} (h : InI x ∧ InI y ∧ InI z ∧ InI u ∧ InI v ∧ InI w ∧ InI (x - u) ∧ InI (y - v) ∧ InI (z - w)) : r7LessS [.agg [.int .i64 x, .int .i64 y, .int .i64 z], .agg [.int .i64 u, .int .i64 v, .int .i64 w]] = .val (.agg [.int .i64 (x - u), .int .i64 (y - v), .int .i64 (z - w)]) := if_pos h
theorem r7Less_ok : SumOk Tryz.prog 189 (pureS r7LessS) := by
  refine sum_fn (L := fun _ => none) (n := 1) (S := stOf []) drawS Tryz.T_ok (stOf_ok (by simp)) Tryz.func189 rfl (by kernel_rfl) (by kernel_rfl) ?_
    (by intro args v h; unfold r7LessS at h; split at h <;> (try split at h) <;> simp at h)
  intro args v h
  unfold r7LessS at h
  split at h
  · rename_i x y z u v w
    split at h
    · rename_i hc
      obtain ⟨hx, hy, hz, hu, hv, hw, e0, e1, e2⟩ := hc
      cases h
      refine ⟨by simp, by simp, by simp, ?_⟩
      simp [Tryz.f189, wrap_i64_in e0.1 e0.2, wrap_i64_in e1.1 e1.2, wrap_i64_in e2.1 e2.2]
    · simp at h
  · simp at h
end Go.X
end

section
namespace Go.X
open Go.Proofs
attribute [local irreducible] Good
def numbersS : Sum := fun args _ nxt => match args with
  | [.agg [.arr .u64 8 a1, .arr .u64 8 a2, .arr .u64 8 a3], .agg [.arr .u64 8 b1, .arr .u64 8 b2, .arr .u64 8 b3]] =>
    .val (.fn 203 [.ptr nxt 0, .ptr (nxt + 1) 0]) [] [⟨[.arr .u64 8 a1, .arr .u64 8 a2, .arr .u64 8 a3], 205⟩, ⟨[.arr .u64 8 b1, .arr .u64 8 b2, .arr .u64 8 b3], 205⟩]
  | _ => .fail
theorem numbers_ok : SumOk Tryz.prog 202 numbersS := by
  refine sum_mem (L := fun _ => none) (n := 1) (S := stOf []) drawS Tryz.T_ok (stOf_ok (by simp)) Tryz.func202 rfl (by kernel_rfl) (by kernel_rfl) ?_
  intro args env nxt h
  unfold numbersS at h ⊢
  split at h
  · rename_i a1 a2 a3 b1 b2 b3
    refine ⟨[.agg [.arr .u64 8 a1, .arr .u64 8 a2, .arr .u64 8 a3], .agg [.arr .u64 8 b1, .arr .u64 8 b2, .arr .u64 8 b3]], [], [], ⟨rfl, rfl, by simp, by simp, by simp, by simp⟩, ?_⟩
    simp [Tryz.f202]
    exact ⟨[0, 1], none, ⟨by simp [upOf, glB, glob, AV.ren, renL]; decide, by simp, by simp, by simp, by simp, by simp, by simp, by simp, by simp⟩⟩
  · simp at h
def numbersI : It := fun cap env => match cap with
  | [.ptr p 0, .ptr q 0] => match env p, env q with
    | some ⟨[.arr .u64 8 a1, .arr .u64 8 a2, .arr .u64 8 a3], _⟩, some ⟨[.arr .u64 8 b1, .arr .u64 8 b2, .arr .u64 8 b3], _⟩ =>
      if p = q then none else some [[.arr .u64 8 a1, .arr .u64 8 b1], [.arr .u64 8 a2, .arr .u64 8 b2], [.arr .u64 8 a3, .arr .u64 8 b3]]
    | _, _ => none
  | _ => none
set_option maxRecDepth 20000 in
set_option maxHeartbeats 2000000 in
theorem numbers1_ok : IterOk Tryz.prog 203 numbersI := by
  refine sum_iter (n := 1) (S := stOf []) Tryz.T_ok (stOf_ok (by simp)) Tryz.func203 rfl (by kernel_rfl) (by kernel_rfl) ?_
  intro cap env ys h
  unfold numbersI at h
  split at h
  · rename_i p q
    split at h
    · rename_i a1 a2 a3 t1 b1 b2 b3 t2 h1 h2
      split at h
      · simp at h
      · rename_i hne
        cases h
        refine ⟨by simp, _, _, _, laid2 [.ptr 0 0, .ptr 1 0] rfl (by simp) h1 h2 hne rfl rfl, ?_⟩
        simp [Tryz.f203]
    · simp at h
  · simp at h
noncomputable def alongS : List AV → PR
  | [.agg [.arr .u64 8 f, .arr .u64 8 g, .arr .u64 8 e], .agg [.int .i64 x, .int .i64 y, .int .i64 z]] => open Classical in
    if R8 f ∧ R8 g ∧ R8 e ∧ InI x ∧ InI y ∧ InI z ∧ InW (sval f * x) ∧ InW (sval g * y) ∧ InW (sval e * z) ∧ InW (sval f * x + sval g * y) ∧ InW (sval f * x + sval g * y + sval e * z)
    then .val (.tup [W (sval f * x + sval g * y + sval e * z), .bool true]) else .fail
  | _ => .fail
@[simp] theorem alongS_val {f g e : Nat → Int} {x y z : Int} (h : R8 f ∧ R8 g ∧ R8 e ∧ InI x ∧ InI y ∧ InI z ∧ InW (sval f * x) ∧ InW (sval g * y) ∧ InW (sval e * z) ∧ InW (sval f * x + sval g * y) ∧ InW (sval f * x + sval g * y + sval e * z)) :
    alongS [.agg [.arr .u64 8 f, .arr .u64 8 g, .arr .u64 8 e], .agg [.int .i64 x, .int .i64 y, .int .i64 z]] = .val (.tup [W (sval f * x + sval g * y + sval e * z), .bool true]) := if_pos h
set_option maxHeartbeats 4000000 in
theorem along_ok : SumOk Tryz.prog 201 (pureS alongS) := by
  refine sum_range (L := fun _ => none) (n := 1) (S := stOf [(202, numbersS), (198, pureS gOfS), (69, pureS mulS), (78, pureS addS)]) (I := itOf [(203, numbersI)]) drawS Tryz.T_ok (stOf_ok (by simp [numbers_ok, gOf_ok, mul_ok, add_ok]))
    (itOf_ok (by simp [numbers1_ok])) Tryz.func201 rfl (by kernel_rfl) (by kernel_rfl) (by kernel_rfl) (by kernel_rfl) (by kernel_rfl) (by kernel_rfl) (by kernel_rfl)
    (by intro args v h; unfold alongS at h; split at h <;> (try split at h) <;> simp at h) ?_
  intro args v h
  unfold alongS at h
  split at h
  · rename_i f g e x y z
    split at h
    · rename_i hc
      obtain ⟨hf, hg, he, hx, hy, hz, w1, w2, w3, w4, w5⟩ := hc
      cases h
      refine ⟨by simp, by simp, by simp, ?_⟩
      simp [Tryz.f201, numbersS, numbersI, hf, hg, he, hx, hy, hz, w1, w2, w3, w4, w5, sval_limb w1, sval_limb w2, sval_limb w3, sval_limb w4, sval_limb hx.w, sval_limb hy.w, sval_limb hz.w, fitV, R8_limb, R8_zero, sval_zero]
    · simp at h
  · simp at h
end Go.X
end

section
namespace Go.X
open Go.Proofs
attribute [local irreducible] Good
theorem three_bd {a b c : Int} (ha : InI a) (hb : InI b) (hc : InI c) : Bd 189 (a * b * c) := ((Bd.of ha).mul (Bd.of hb)).mul (Bd.of hc)
theorem det_is {a b c x y z u v w : Int} : a * y * w + b * z * u + c * x * v - (c * y * u + b * x * w + a * z * v) = dtI a b c x y z u v w := by unfold dtI crX crY crZ; grind
noncomputable def gDetS : List AV → PR
  | [.agg [.int .i64 a, .int .i64 b, .int .i64 c], .agg [.int .i64 x, .int .i64 y, .int .i64 z], .agg [.int .i64 u, .int .i64 v, .int .i64 w]] => open Classical in if InI a ∧ InI b ∧ InI c ∧ InI x ∧ InI y ∧ InI z ∧ InI u ∧ InI v ∧ InI w then .val (W (dtI a b c x y z u v w)) else .fail
  | _ => .fail
@[simp] theorem gDetS_val {a b c x y z u v w : Int} (h : InI a ∧ InI b ∧ InI c ∧ InI x ∧ InI y ∧ InI z ∧ InI u ∧ InI v ∧ InI w) : gDetS [.agg [.int .i64 a, .int .i64 b, .int .i64 c], .agg [.int .i64 x, .int .i64 y, .int .i64 z], .agg [.int .i64 u, .int .i64 v, .int .i64 w]] = .val (W (dtI a b c x y z u v w)) := if_pos h
set_option maxHeartbeats 4000000 in
theorem gDet_ok : SumOk Tryz.prog 195 (pureS gDetS) := by
  refine sum_fn (L := fun i => if i = 1 then some (.held 9 [7]) else none) (n := 1) (S := stOf [(201, pureS alongS), (193, pureS gCrossS)]) drawS Tryz.T_ok (stOf_ok (by simp [along_ok, gCross_ok])) Tryz.func195 rfl (by kernel_rfl) (by kernel_rfl) ?_
    (by intro args v h; unfold gDetS at h; split at h <;> (try split at h) <;> simp at h)
  intro args v h
  unfold gDetS at h
  split at h
  · rename_i a b c x y z u v w
    split at h
    · rename_i hc
      obtain ⟨ha, hb, hc, hx, hy, hz, hu, hv, hw⟩ := hc
      cases h
      refine ⟨by simp, by simp, by simp, ?_⟩
      have k1 : Bd 127 (crX x y z u v w) := cr_bd hy hw hz hv
      have k2 : Bd 127 (crY x y z u v w) := cr_bd hz hu hx hw
      have k3 : Bd 127 (crZ x y z u v w) := cr_bd hx hv hy hu
      have m1 := k1.mul (Bd.of ha)
      have m2 := k2.mul (Bd.of hb)
      have m3 := k3.mul (Bd.of hc)
      have m4 := m1.add m2
      have m5 := m4.add (m3.mono (by decide : 190 ≤ 191))
      have w1 := k1.w (by decide)
      have w2 := k2.w (by decide)
      have w3 := k3.w (by decide)
      have w4 := m1.w (by decide)
      have w5 := m2.w (by decide)
      have w6 := m3.w (by decide)
      have w7 := m4.w (by decide)
      have w8 := m5.w (by decide)
      simp [Tryz.f195, ha, hb, hc, hx, hy, hz, hu, hv, hw, R8_limb, dtI, w4, w5, w6, w7, w8, sval_limb w1, sval_limb w2, sval_limb w3]
    · simp at h
  · simp at h
noncomputable def r6DetS : List AV → PR
  | [.agg [.int .i64 a, .int .i64 b, .int .i64 c], .agg [.int .i64 x, .int .i64 y, .int .i64 z], .agg [.int .i64 u, .int .i64 v, .int .i64 w]] => open Classical in if InI a ∧ InI b ∧ InI c ∧ InI x ∧ InI y ∧ InI z ∧ InI u ∧ InI v ∧ InI w then .val (W (dtI a b c x y z u v w)) else .fail
  | _ => .fail
@[simp] theorem r6DetS_val {a b c x y z u v w : Int} (h : InI a ∧ InI b ∧ InI c ∧ InI x ∧ InI y ∧ InI z ∧ InI u ∧ InI v ∧ InI w) : r6DetS [.agg [.int .i64 a, .int .i64 b, .int .i64 c], .agg [.int .i64 x, .int .i64 y, .int .i64 z], .agg [.int .i64 u, .int .i64 v, .int .i64 w]] = .val (W (dtI a b c x y z u v w)) := if_pos h
set_option maxHeartbeats 8000000 in
set_option maxRecDepth 100000 in
theorem r6Det_ok : SumOk Tryz.prog 190 (pureS r6DetS) := by
  refine sum_fn (L := fun i => if i = 1 then some (.quiet 24) else if i = 2 then some (.quiet 24) else none) (n := 1) (S := stOf [(107, pureS r3lessS), (97, pureS r3plusS), (197, pureS r6threeS)]) drawS Tryz.T_ok (stOf_ok (by simp [r3less_ok, r3plus_ok, r6three_ok])) Tryz.func190 rfl (by kernel_rfl) (by kernel_rfl) ?_
    (by intro args v h; unfold r6DetS at h; split at h <;> (try split at h) <;> simp at h)
  intro args v h
  unfold r6DetS at h
  split at h
  · rename_i a b c x y z u v w
    split at h
    · rename_i hc
      obtain ⟨ha, hb, hc, hx, hy, hz, hu, hv, hw⟩ := hc
      cases h
      refine ⟨by simp, by simp, by simp, ?_⟩
      have b0 : Bd 189 (a * y * w) := three_bd ha hy hw
      have v0 := b0.w (by decide)
      have b1 : Bd 189 (b * z * u) := three_bd hb hz hu
      have v1 := b1.w (by decide)
      have b2 : Bd 189 (c * x * v) := three_bd hc hx hv
      have v2 := b2.w (by decide)
      have b3 : Bd 189 (c * y * u) := three_bd hc hy hu
      have v3 := b3.w (by decide)
      have b4 : Bd 189 (b * x * w) := three_bd hb hx hw
      have v4 := b4.w (by decide)
      have b5 : Bd 189 (a * z * v) := three_bd ha hz hv
      have v5 := b5.w (by decide)
      have c0 := b0.add b1
      have c1 := c0.add (b2.mono (by decide : 189 ≤ 190))
      have c2 := b3.add b4
      have c3 := c2.add (b5.mono (by decide : 189 ≤ 190))
      have c4 := c1.sub c3
      have x0 := c0.w (by decide)
      have x1 := c1.w (by decide)
      have x2 := c2.w (by decide)
      have x3 := c3.w (by decide)
      have x4 := c4.w (by decide)
      have e0 := @det_is a b c x y z u v w
      rw [← e0]
      simp [Tryz.f190, ha, hb, hc, hx, hy, hz, hu, hv, hw, R8_limb, sval_limb v0, sval_limb v1, sval_limb v2, sval_limb v3, sval_limb v4, sval_limb v5, x0, sval_limb x0, x1, sval_limb x1, x2, sval_limb x2, x3, sval_limb x3, x4]
    · simp at h
  · simp at h
noncomputable def r7detS : List AV → PR
  | [.agg [.int .i64 a, .int .i64 b, .int .i64 c], .agg [.int .i64 x, .int .i64 y, .int .i64 z], .agg [.int .i64 u, .int .i64 v, .int .i64 w], .agg [.int .i64 l, .int .i64 m, .int .i64 n]] => open Classical in if InI a ∧ InI b ∧ InI c ∧ InI x ∧ InI y ∧ InI z ∧ InI u ∧ InI v ∧ InI w ∧ InI l ∧ InI m ∧ InI n ∧ InI (x - a) ∧ InI (y - b) ∧ InI (z - c) ∧ InI (u - a) ∧ InI (v - b) ∧ InI (w - c) ∧ InI (l - a) ∧ InI (m - b) ∧ InI (n - c) then .val (W (dtI (x - a) (y - b) (z - c) (u - a) (v - b) (w - c) (l - a) (m - b) (n - c))) else .fail
  | _ => .fail
@[simp] theorem r7detS_val {a b c x y z u v w l m n : Int} (h : InI a ∧ InI b ∧ InI c ∧ InI x ∧ InI y ∧ InI z ∧ InI u ∧ InI v ∧ InI w ∧ InI l ∧ InI m ∧ InI n ∧ InI (x - a) ∧ InI (y - b) ∧ InI (z - c) ∧ InI (u - a) ∧ InI (v - b) ∧ InI (w - c) ∧ InI (l - a) ∧ InI (m - b) ∧ InI (n - c)) : r7detS [.agg [.int .i64 a, .int .i64 b, .int .i64 c], .agg [.int .i64 x, .int .i64 y, .int .i64 z], .agg [.int .i64 u, .int .i64 v, .int .i64 w], .agg [.int .i64 l, .int .i64 m, .int .i64 n]] = .val (W (dtI (x - a) (y - b) (z - c) (u - a) (v - b) (w - c) (l - a) (m - b) (n - c))) := if_pos h
theorem r7det_ok : SumOk Tryz.prog 174 (pureS r7detS) := by
  refine sum_fn (L := fun i => if i = 1 then some (.quiet 10) else none) (n := 1) (S := stOf [(190, pureS r6DetS), (189, pureS r7LessS)]) drawS Tryz.T_ok (stOf_ok (by simp [r6Det_ok, r7Less_ok])) Tryz.func174 rfl (by kernel_rfl) (by kernel_rfl) ?_
    (by intro args v h; unfold r7detS at h; split at h <;> (try split at h) <;> simp at h)
  intro args v h
  unfold r7detS at h
  split at h
  · rename_i a b c x y z u v w l m n
    split at h
    · rename_i hc
      obtain ⟨ha, hb, hc, hx, hy, hz, hu, hv, hw, hl, hm, hn, e0, e1, e2, e3, e4, e5, e6, e7, e8⟩ := hc
      cases h
      refine ⟨by simp, by simp, by simp, ?_⟩
      simp [Tryz.f174, ha, hb, hc, hx, hy, hz, hu, hv, hw, hl, hm, hn, e0, e1, e2, e3, e4, e5, e6, e7, e8]
    · simp at h
  · simp at h
noncomputable def r7lineS : List AV → PR
  | [.agg [.int .i64 a, .int .i64 b, .int .i64 c], .agg [.int .i64 x, .int .i64 y, .int .i64 z], .agg [.int .i64 u, .int .i64 v, .int .i64 w]] => open Classical in if InI a ∧ InI b ∧ InI c ∧ InI x ∧ InI y ∧ InI z ∧ InI u ∧ InI v ∧ InI w ∧ InI (x - a) ∧ InI (y - b) ∧ InI (z - c) ∧ InI (u - a) ∧ InI (v - b) ∧ InI (w - c) then .val (.bool (decide (crX (x - a) (y - b) (z - c) (u - a) (v - b) (w - c) = 0 ∧ crY (x - a) (y - b) (z - c) (u - a) (v - b) (w - c) = 0 ∧ crZ (x - a) (y - b) (z - c) (u - a) (v - b) (w - c) = 0))) else .fail
  | _ => .fail
@[simp] theorem r7lineS_val {a b c x y z u v w : Int} (h : InI a ∧ InI b ∧ InI c ∧ InI x ∧ InI y ∧ InI z ∧ InI u ∧ InI v ∧ InI w ∧ InI (x - a) ∧ InI (y - b) ∧ InI (z - c) ∧ InI (u - a) ∧ InI (v - b) ∧ InI (w - c)) : r7lineS [.agg [.int .i64 a, .int .i64 b, .int .i64 c], .agg [.int .i64 x, .int .i64 y, .int .i64 z], .agg [.int .i64 u, .int .i64 v, .int .i64 w]] = .val (.bool (decide (crX (x - a) (y - b) (z - c) (u - a) (v - b) (w - c) = 0 ∧ crY (x - a) (y - b) (z - c) (u - a) (v - b) (w - c) = 0 ∧ crZ (x - a) (y - b) (z - c) (u - a) (v - b) (w - c) = 0))) := if_pos h
theorem r7line_ok : SumOk Tryz.prog 173 (pureS r7lineS) := by
  refine sum_fn (L := fun _ => none) (n := 1) (S := stOf [(188, pureS r6CrossS), (189, pureS r7LessS)]) drawS Tryz.T_ok (stOf_ok (by simp [r6Cross_ok, r7Less_ok])) Tryz.func173 rfl (by kernel_rfl) (by kernel_rfl) ?_
    (by intro args v h; unfold r7lineS at h; split at h <;> (try split at h) <;> simp at h)
  intro args v h
  unfold r7lineS at h
  split at h
  · rename_i a b c x y z u v w
    split at h
    · rename_i hc
      obtain ⟨ha, hb, hc, hx, hy, hz, hu, hv, hw, e0, e1, e2, e3, e4, e5⟩ := hc
      cases h
      refine ⟨by simp, by simp, by simp, ?_⟩
      have k1 : Bd 127 (crX (x - a) (y - b) (z - c) (u - a) (v - b) (w - c)) := cr_bd e1 e5 e2 e4
      have k2 : Bd 127 (crY (x - a) (y - b) (z - c) (u - a) (v - b) (w - c)) := cr_bd e2 e3 e0 e5
      have k3 : Bd 127 (crZ (x - a) (y - b) (z - c) (u - a) (v - b) (w - c)) := cr_bd e0 e4 e1 e3
      simp [Tryz.f173, ha, hb, hc, hx, hy, hz, hu, hv, hw, e0, e1, e2, e3, e4, e5, eqArr_iff (R8_limb _) R8_zero, sval_zero, sval_limb (k1.w (by decide)), sval_limb (k2.w (by decide)), sval_limb (k3.w (by decide))]
    · simp at h
  · simp at h
end Go.X
end

section
namespace Go.X
def cutL (k : Nat) (F : Nat → Int) (j : Nat) : Int := if j < k then F j else 0
theorem cutL_lt {k j : Nat} {F : Nat → Int} (h : j < k) : cutL k F j = F j := if_pos h
def LA (m : List Blk) (es : Nat) (e : TypeId) (d : AV) (n : Nat) (F : Nat → Int) : Prop :=
  (d = .nilslice ∧ n = 0) ∨ ∃ p c, d = .slice p 0 n (n + c) ∧ m[p]? = some ⟨[.arr .i64 ((n + c) * es) (cutL (n * es) F)], e⟩
theorem LA.nil {m : List Blk} {es : Nat} {e : TypeId} {F : Nat → Int} : LA m es e .nilslice 0 F := .inl ⟨rfl, rfl⟩
theorem LA.congr {m : List Blk} {es n : Nat} {e : TypeId} {d : AV} {F G : Nat → Int} (h : LA m es e d n F) (hg : ∀ j, j < n * es → F j = G j) : LA m es e d n G := by
  have e1 : cutL (n * es) F = cutL (n * es) G := by
    funext j; unfold cutL; by_cases hj : j < n * es
    · rw [if_pos hj, if_pos hj, hg j hj]
    · rw [if_neg hj, if_neg hj]
  rcases h with h | ⟨p, c, h1, h2⟩
  · exact .inl h
  · exact .inr ⟨p, c, h1, by rw [← e1]; exact h2⟩
theorem LA.keep {m m' : List Blk} {es n : Nat} {e : TypeId} {d : AV} {F : Nat → Int} (h : LA m es e d n F) (hk : ∀ q, q ∈ refs d → m'[q]? = m[q]?) : LA m' es e d n F := by
  rcases h with h | ⟨p, c, h1, h2⟩
  · exact .inl h
  · subst h1
    exact .inr ⟨p, c, rfl, by rw [hk p (by simp [refs])]; exact h2⟩
theorem LA.ref {m : List Blk} {es n : Nat} {e : TypeId} {d : AV} {F : Nat → Int} (h : LA m es e d n F) : solid d = true ∧ d ≠ .undef ∧ ∀ q, q ∈ refs d → q < m.length := by
  rcases h with ⟨rfl, -⟩ | ⟨p, c, rfl, h2⟩
  · exact ⟨rfl, by simp, by simp [refs]⟩
  · refine ⟨rfl, by simp, ?_⟩
    intro q hq
    simp only [refs, List.mem_singleton] at hq
    subst hq
    exact (List.getElem?_eq_some_iff.1 h2).1
theorem LA.not_ref {m : List Blk} {es n q : Nat} {e : TypeId} {d : AV} {F : Nat → Int} {B : Blk} (h : LA m es e d n F) (hb : m[q]? = some B) (ht : B.ty ≠ e) : q ∉ refs d := by
  rcases h with ⟨rfl, -⟩ | ⟨p, c, rfl, h2⟩
  · simp [refs]
  · simp only [refs, List.mem_singleton]
    rintro rfl
    rw [hb] at h2
    exact ht (by rw [Option.some.inj h2])
theorem catF_cut {a b o' : Nat} {F g : Nat → Int} : catF a b (cutL a F) 0 g o' = cutL (a + b) (fun j => if j < a then F j else g (o' + (j - a))) := by
  funext j
  unfold catF cutL
  by_cases h1 : j < a
  · have h2 : j < a + b := by omega
    simp [h1, h2]
  · by_cases h2 : j < a + b
    · simp [h1, h2]
    · simp [h1, h2]
theorem putF_cut {a b o' : Nat} {F g : Nat → Int} : putF (cutL a F) (0 + a) b g o' = cutL (a + b) (fun j => if j < a then F j else g (o' + (j - a))) := by
  funext j
  unfold putF cutL
  by_cases h1 : j < a
  · have h2 : j < a + b := by omega
    have h3 : ¬ (0 + a ≤ j ∧ j < 0 + a + b) := by omega
    simp [h1, h2]
    intro h4; omega
  · by_cases h2 : j < a + b
    · have h3 : 0 + a ≤ j ∧ j < 0 + a + b := by omega
      rw [if_pos h3, if_pos h2, show j - (0 + a) = j - a from by omega]
      exact (if_neg h1).symm
    · have h3 : ¬ (0 + a ≤ j ∧ j < 0 + a + b) := by omega
      simp only [h1, h2, h3, if_false]
theorem append_good {T : TT} {s : St} {dst : Option Tmp} {t e : TypeId} {es eb sz n n' o' : Nat} {ez z : AV} {q : Bool} {d x : AV} {F g : Nat → Int} {Q : Ex → St → Prop} {mem : Mem} {nxt : Nat}
    (hT : T t = some ⟨.slice e es eb ez, sz, z, q⟩) (hz : zeroK es ez = some .i64) (heb : eb ≤ 256) (hm : mem = fun b => s.m[b]?) (hnx : nxt = s.m.length) (hd : LA s.m es e d n F) (hx : rowK mem es .i64 x = some (n', o', g)) (hxs : isSl x = true) (hn' : 0 < n') (hn : n + n' ≤ 1048576)
    (hQ : ∀ (m' : List Blk) (v : AV), (∀ p, p < s.m.length → p ∉ refs d → m'[p]? = s.m[p]?) → s.m.length ≤ m'.length → LA m' es e v (n + n') (fun j => if j < n * es then F j else g (o' + (j - n * es))) → Q .norm (St.put { s with m := m' } dst v)) (c : Nat) :
    Good (ofOR dst s (appA T mem nxt [t, t] [d, x] c)) Q := by
  subst hm hnx
  unfold appA
  simp only [hT, hz]
  have hs : isSl x = true := hxs
  rcases hd with ⟨rfl, rfl⟩ | ⟨p, cc, rfl, hp⟩
  · simp only [rowK] at hx ⊢
    rw [hx]
    simp only
    rw [if_pos ⟨by first | rfl | trivial, by omega, heb⟩, if_pos ⟨by simp only [roomK]; omega, hs⟩]
    simp only [ofOR, Good, upM]
    refine hQ _ _ (fun q hq _ => by rw [List.getElem?_append_left hq]) (by simp) (.inr ⟨s.m.length, c, by rw [Nat.zero_add], ?_⟩)
    rw [List.getElem?_append_right (Nat.le_refl _), Nat.sub_self]
    simp only [List.getElem?_cons_zero, Option.some.injEq, Blk.mk.injEq, List.cons.injEq, AV.arr.injEq, and_true, true_and]
    have e1 : (fun _ : Nat => (0 : Int)) = cutL (0 * es) F := by
      funext j; unfold cutL; rw [if_neg (by omega)]
    rw [e1, catF_cut]
    simp [Nat.zero_mul]
  · have hr : rowK (fun b => s.m[b]?) es .i64 (.slice p 0 n (n + cc)) = some (n, 0, cutL (n * es) F) := by
      simp only [rowK, hp, rowB]
      rw [if_pos ⟨by first | rfl | trivial, by rw [Nat.add_mul]; omega⟩]
    rw [hr, hx]
    simp only
    rw [if_pos ⟨by first | rfl | trivial, hn, heb⟩]
    by_cases hroom : n + cc < n + n'
    · rw [if_pos ⟨by simp only [roomK]; exact hroom, hs⟩]
      simp only [ofOR, Good, upM]
      refine hQ _ _ (fun q hq _ => by rw [List.getElem?_append_left hq]) (by simp) (.inr ⟨s.m.length, c, rfl, ?_⟩)
      rw [List.getElem?_append_right (Nat.le_refl _), Nat.sub_self]
      simp only [List.getElem?_cons_zero, Option.some.injEq, Blk.mk.injEq, List.cons.injEq, AV.arr.injEq, and_true, true_and]
      rw [catF_cut, Nat.add_mul n n' es]
    · rw [if_neg (by simp only [roomK]; intro h; exact hroom h.1), if_neg (by omega)]
      simp only [roomA, hp]
      rw [if_pos ⟨by first | rfl | trivial, by
        rw [Nat.zero_add]; exact Nat.mul_le_mul_right _ (by omega)⟩]
      simp only [ofOR, Good, upM, List.append_nil]
      refine hQ _ _ (fun q hq hqr => ?_) (by simp) (.inr ⟨p, cc - n', ?_, ?_⟩)
      · rw [List.getElem?_modify]
        have : ¬ p = q := fun e => hqr (by simp [refs, e])
        simp [this]
      · rw [show n + n' + (cc - n') = n + cc from by omega]
      · rw [List.getElem?_modify]
        simp only [if_true, hp]
        rw [show n + n' + (cc - n') = n + cc from by omega, putF_cut, Nat.add_mul n n' es]
        rfl
theorem ofOR_val {d : Option Tmp} {s : St} {v : AV} {up : List (Nat × List AV)} {nw : List Blk} : ofOR d s (.val v up nw) = .fin .norm (St.put { s with m := upM s.m up ++ nw } d v) := rfl
theorem loadB_three {ti : TI} {B : Blk} {o1 n0 n o i : Nat} {f : Nat → Int} (ha : ti.kind.agg = true) (hs : ti.size = 3) (h : rowB 3 .i64 (some B) o1 n0 = some (n, o, f)) (hi : i < n) :
    loadB ti B (o1 + i * 3) = some (.agg [.int .i64 (f (o + i * 3)), .int .i64 (f (o + i * 3 + 1)), .int .i64 (f (o + i * 3 + 2))]) := by
  obtain ⟨items, ty⟩ := B
  unfold rowB at h
  split at h
  · rename_i b k1 N F t e
    simp only [Option.some.injEq, Blk.mk.injEq] at e
    obtain ⟨rfl, rfl⟩ := e
    split at h
    · rename_i hc
      obtain ⟨rfl, hN⟩ := hc
      simp only [Option.some.injEq, Prod.mk.injEq] at h
      obtain ⟨rfl, rfl, rfl⟩ := h
      have hle : o1 + i * 3 + 3 ≤ N := by omega
      simp only [loadB, ha, if_true, hs, readRow]
      by_cases h0 : o1 + i * 3 = 0 ∧ 3 = N
      · rw [if_pos h0]
        obtain ⟨e0, e1⟩ := h0
        subst e1
        simp [asAgg, explode, List.range, List.range.loop, e0]
      · rw [if_neg h0, if_pos hle]
        simp [asAgg, explode, List.range, List.range.loop]
    · simp at h
  · rename_i b cs t0 fr k1 F S t e
    simp only [Option.some.injEq, Blk.mk.injEq] at e
    obtain ⟨rfl, rfl⟩ := e
    split at h
    · rename_i hc
      obtain ⟨rfl, hN⟩ := hc
      simp only [Option.some.injEq, Prod.mk.injEq] at h
      obtain ⟨rfl, rfl, rfl⟩ := h
      have hcov : covB S (o1 + i * 3) 3 = true := by
        unfold covB
        rw [List.all_eq_true]
        intro j hj
        have hj3 := List.mem_range.1 hj
        rw [Nat.add_assoc]
        exact covB_get hN (by omega)
      simp only [loadB, hs, hcov, ha, if_true]
      simp [asAgg, explode, List.range, List.range.loop]
    · simp at h
  · split at h
    · simp only [Option.some.injEq, Prod.mk.injEq] at h
      omega
    · simp at h
  · simp at h
end Go.X
end

section
namespace Go.X
def IsL (m : List Blk) (l : AV) (n : Nat) (f : Nat → Int) : Prop :=
  (l = .nilslice ∧ n = 0) ∨ ∃ (p o1 c : Nat) (B : Blk) (o : Nat) (F : Nat → Int), l = .slice p o1 n c ∧ n ≤ c ∧ m[p]? = some B ∧ rowB 3 .i64 (some B) o1 n = some (n, o, F) ∧ ∀ j, f j = F (o + j)
def listE (env : Mem) (l : AV) : Option (Nat × (Nat → Int)) := match l with
  | .nilslice => some (0, fun _ => 0)
  | .slice p o1 n c => match rowB 3 .i64 (env p) o1 n with
    | some (n', o, F) => if n' = n ∧ n ≤ c then some (n, fun j => F (o + j)) else none
    | none => none
  | _ => none
theorem IsL.load {o1 n : Nat} {B : Blk} {o i : Nat} {F : Nat → Int} (h : rowB 3 .i64 (some B) o1 n = some (n, o, F)) (hi : i < n) (fs : List (Nat × Nat × Bool)) (z : AV) (q : Bool) :
    loadB ⟨.struct fs, 3, z, q⟩ B (o1 + i * 3) = some (.agg [.int .i64 (F (o + i * 3)), .int .i64 (F (o + i * 3 + 1)), .int .i64 (F (o + i * 3 + 2))]) := loadB_three rfl rfl h hi
mutual
theorem ren_ren (θ η : Nat → Nat) : ∀ v : AV, (v.ren θ).ren η = v.ren (η ∘ θ)
  | .agg l => by simp only [AV.ren]; rw [renL_renL θ η l]
  | .tup l => by simp only [AV.ren]; rw [renL_renL θ η l]
  | .fn f l => by simp only [AV.ren]; rw [renL_renL θ η l]
  | .mv f l => by simp only [AV.ren]; rw [renL_renL θ η l]
  | .iface t v => by simp only [AV.ren]; rw [ren_ren θ η v]
  | .undef | .bool _ | .int .. | .arr .. | .ptr .. | .nilptr | .slice .. | .nilslice | .nilfn | .nilif | .win .. => by simp [AV.ren]
theorem renL_renL (θ η : Nat → Nat) : ∀ l : List AV, renL η (renL θ l) = renL (η ∘ θ) l
  | [] => rfl
  | v :: l => by simp only [renL]; rw [ren_ren θ η v, renL_renL θ η l]
end
mutual
theorem ren_congr {θ η : Nat → Nat} : ∀ v : AV, (∀ b ∈ refs v, θ b = η b) → v.ren θ = v.ren η
  | .agg l, h => by simp only [AV.ren]; rw [renL_congr l (by simpa [refs] using h)]
  | .tup l, h => by simp only [AV.ren]; rw [renL_congr l (by simpa [refs] using h)]
  | .fn f l, h => by simp only [AV.ren]; rw [renL_congr l (by simpa [refs] using h)]
  | .mv f l, h => by simp only [AV.ren]; rw [renL_congr l (by simpa [refs] using h)]
  | .iface t v, h => by simp only [AV.ren]; rw [ren_congr v (by simpa [refs] using h)]
  | .ptr b o, h => by simp only [AV.ren]; rw [h b (by simp [refs])]
  | .slice b o n c, h => by simp only [AV.ren]; rw [h b (by simp [refs])]
  | .undef, _ | .bool _, _ | .int .., _ | .arr .., _ | .nilptr, _ | .nilslice, _ | .nilfn, _ | .nilif, _ | .win .., _ => by simp [AV.ren]
theorem renL_congr {θ η : Nat → Nat} : ∀ l : List AV, (∀ b ∈ refsL l, θ b = η b) → renL θ l = renL η l
  | [], _ => rfl
  | v :: l, h => by
    simp only [renL]
    rw [ren_congr v (fun b hb => h b (by simp [refsL, hb])), renL_congr l (fun b hb => h b (by simp [refsL, hb]))]
end
theorem rowB_noref {es : Nat} {k : IntKind} {B : Blk} {o n : Nat} {x : Nat × Nat × (Nat → Int)} (h : rowB es k (some B) o n = some x) : refsL B.items = [] := by
  obtain ⟨l, t⟩ := B
  unfold rowB at h
  split at h
  · rename_i e; cases e; simp [refsL, refs]
  · rename_i e; cases e; simp [refsL, refs]
  · rename_i e; cases e; simp [refsL]
  · simp at h
end Go.X
end

section
namespace Go.X
theorem append_good2 {T : TT} {s : St} {dst : Option Tmp} {t e : TypeId} {es eb sz n n' o' : Nat} {ez z : AV} {q : Bool} {d x : AV} {F g : Nat → Int} {Q : Ex → St → Prop} {mem : Mem} {nxt : Nat}
    (hT : T t = some ⟨.slice e es eb ez, sz, z, q⟩) (hz : zeroK es ez = some .i64) (heb : eb ≤ 256) (hm : mem = fun b => s.m[b]?) (hnx : nxt = s.m.length) (hd : LA s.m es e d n F) (hx : rowK mem es .i64 x = some (n', o', g)) (hxs : isSl x = true) (hn' : 0 < n') (hn : n + n' ≤ 1048576)
    (hQ : ∀ (m' : List Blk) (v : AV), (∀ p, p < s.m.length → p ∉ refs d → m'[p]? = s.m[p]?) → s.m.length ≤ m'.length → LA m' es e v (n + n') (fun j => if j < n * es then F j else g (o' + (j - n * es))) → (∀ q, q ∈ refs v → q ∈ refs d ∨ s.m.length ≤ q) → Q .norm (St.put { s with m := m' } dst v)) (c : Nat) :
    Good (ofOR dst s (appA T mem nxt [t, t] [d, x] c)) Q := by
  subst hm hnx
  unfold appA
  simp only [hT, hz]
  have hs : isSl x = true := hxs
  rcases hd with ⟨rfl, rfl⟩ | ⟨p, cc, rfl, hp⟩
  · simp only [rowK] at hx ⊢
    rw [hx]
    simp only
    rw [if_pos ⟨by first | rfl | trivial, by omega, heb⟩, if_pos ⟨by simp only [roomK]; omega, hs⟩]
    simp only [ofOR, Good, upM]
    refine hQ _ _ (fun q hq _ => by rw [List.getElem?_append_left hq]) (by simp) (.inr ⟨s.m.length, c, by rw [Nat.zero_add], ?_⟩) (fun q hq => .inr (by simp [refs] at hq; omega))
    rw [List.getElem?_append_right (Nat.le_refl _), Nat.sub_self]
    simp only [List.getElem?_cons_zero, Option.some.injEq, Blk.mk.injEq, List.cons.injEq, AV.arr.injEq, and_true, true_and]
    have e1 : (fun _ : Nat => (0 : Int)) = cutL (0 * es) F := by
      funext j; unfold cutL; rw [if_neg (by omega)]
    rw [e1, catF_cut]
    simp [Nat.zero_mul]
  · have hr : rowK (fun b => s.m[b]?) es .i64 (.slice p 0 n (n + cc)) = some (n, 0, cutL (n * es) F) := by
      simp only [rowK, hp, rowB]
      rw [if_pos ⟨by first | rfl | trivial, by rw [Nat.add_mul]; omega⟩]
    rw [hr, hx]
    simp only
    rw [if_pos ⟨by first | rfl | trivial, hn, heb⟩]
    by_cases hroom : n + cc < n + n'
    · rw [if_pos ⟨by simp only [roomK]; exact hroom, hs⟩]
      simp only [ofOR, Good, upM]
      refine hQ _ _ (fun q hq _ => by rw [List.getElem?_append_left hq]) (by simp) (.inr ⟨s.m.length, c, rfl, ?_⟩) (fun q hq => .inr (by simp [refs] at hq; omega))
      rw [List.getElem?_append_right (Nat.le_refl _), Nat.sub_self]
      simp only [List.getElem?_cons_zero, Option.some.injEq, Blk.mk.injEq, List.cons.injEq, AV.arr.injEq, and_true, true_and]
      rw [catF_cut, Nat.add_mul n n' es]
    · rw [if_neg (by simp only [roomK]; intro h; exact hroom h.1), if_neg (by omega)]
      simp only [roomA, hp]
      rw [if_pos ⟨by first | rfl | trivial, by
        rw [Nat.zero_add]; exact Nat.mul_le_mul_right _ (by omega)⟩]
      simp only [ofOR, Good, upM, List.append_nil]
      refine hQ _ _ (fun q hq hqr => ?_) (by simp) (.inr ⟨p, cc - n', ?_, ?_⟩) (fun q hq => .inl (by simpa [refs] using hq))
      · rw [List.getElem?_modify]
        have : ¬ p = q := fun e => hqr (by simp [refs, e])
        simp [this]
      · rw [show n + n' + (cc - n') = n + cc from by omega]
      · rw [List.getElem?_modify]
        simp only [if_true, hp]
        rw [show n + n' + (cc - n') = n + cc from by omega, putF_cut, Nat.add_mul n n' es]
        rfl
theorem sum_or {P : Program} {f : FuncId} {g1 g2 g : Sum} (h1 : SumOk P f g1) (h2 : SumOk P f g2) (h : ∀ args env nxt, g args env nxt = .fail ∨ g args env nxt = g1 args env nxt ∨ g args env nxt = g2 args env nxt) : SumOk P f g := by
  intro args D ρ0 w0 ρ mem env nxt w henv hnf hso hrf hfr hi
  rcases h args env nxt with e | e | e
  · exact absurd e hnf
  · rw [e] at hnf hfr ⊢
    exact h1 args D ρ0 w0 ρ mem env nxt w henv hnf hso hrf hfr hi
  · rw [e] at hnf hfr ⊢
    exact h2 args D ρ0 w0 ρ mem env nxt w henv hnf hso hrf hfr hi
theorem listE_slice {env : Mem} {p o1 n c n' : Nat} {f : Nat → Int} (h : listE env (.slice p o1 n c) = some (n', f)) : n' = n ∧ n ≤ c ∧ ∃ items ty, env p = some ⟨items, ty⟩ ∧ refsL items = [] ∧ (∃ o F, rowB 3 .i64 (some ⟨items, ty⟩) o1 n = some (n, o, F) ∧ f = fun j => F (o + j)) ∧
    ∀ i, i < n → ∀ fs z q, loadB ⟨.struct fs, 3, z, q⟩ ⟨items, ty⟩ (o1 + i * 3) = some (.agg [.int .i64 (f (i * 3)), .int .i64 (f (i * 3 + 1)), .int .i64 (f (i * 3 + 2))]) := by
  unfold listE at h
  simp only at h
  split at h
  · rename_i n2 o F hrow
    split at h
    · rename_i hc
      obtain ⟨rfl, hnc⟩ := hc
      simp only [Option.some.injEq, Prod.mk.injEq] at h
      obtain ⟨rfl, rfl⟩ := h
      cases hb : env p with
      | none => rw [hb] at hrow; simp [rowB] at hrow
      | some B =>
        rw [hb] at hrow
        obtain ⟨items, ty⟩ := B
        exact ⟨rfl, hnc, items, ty, rfl, rowB_noref hrow, ⟨o, F, hrow, rfl⟩, fun i hi fs z q => loadB_three (ti := ⟨.struct fs, 3, z, q⟩) rfl rfl hrow hi⟩
    · simp at h
  · simp at h
@[simp] theorem listE_nil {env : Mem} : listE env .nilslice = some (0, fun _ => 0) := rfl
theorem listE_at {env : Mem} {p o1 n c o : Nat} {B : Blk} {f F : Nat → Int} (hp : env p = some B) (hrow : rowB 3 .i64 (some B) o1 n = some (n, o, F)) (hf : f = fun j => F (o + j)) (hnc : n ≤ c) : listE env (.slice p o1 n c) = some (n, f) := by
  simp only [listE, hp, hrow]
  rw [if_pos ⟨by first | rfl | trivial, hnc⟩, hf]
theorem listE_own {items : List AV} {ty : TypeId} {o1 n c o : Nat} {f F : Nat → Int} (hrow : rowB 3 .i64 (some ⟨items, ty⟩) o1 n = some (n, o, F)) (hf : f = fun j => F (o + j)) (hnc : n ≤ c) (ts : List AV) (x : List Blk) (df : List (FuncId × List AV)) :
    listE (St.mem ⟨ts, (⟨items, ty⟩ : Blk) :: x, df⟩) (.slice 0 o1 n c) = some (n, f) := listE_at rfl hrow hf hnc
theorem listE_ownE {items : List AV} {ty : TypeId} {o1 n c o : Nat} {f F : Nat → Int} (hrow : rowB 3 .i64 (some ⟨items, ty⟩) o1 n = some (n, o, F)) (hf : f = fun j => F (o + j)) (hnc : n ≤ c) (ts : List AV) (x : List Blk) (df : List (FuncId × List AV)) (l : List Nat) (hl : 0 ∈ l) :
    listE (envOf (St.mem ⟨ts, (⟨items, ty⟩ : Blk) :: x, df⟩) l) (.slice 0 o1 n c) = some (n, f) := listE_at (by rw [envOf_app, if_pos hl]; rfl) hrow hf hnc
theorem listE_cases {env : Mem} {l : AV} {n : Nat} {f : Nat → Int} (h : listE env l = some (n, f)) : (l = .nilslice ∧ n = 0 ∧ f = fun _ => 0) ∨ ∃ p o1 c, l = .slice p o1 n c := by
  cases l with
  | nilslice =>
    simp only [listE_nil, Option.some.injEq, Prod.mk.injEq] at h
    exact .inl ⟨rfl, h.1.symm, h.2.symm⟩
  | slice p o1 n0 c =>
    obtain ⟨rfl, -⟩ := listE_slice h
    exact .inr ⟨p, o1, c, rfl⟩
  | _ => simp [listE] at h
theorem laid_shape {env : Mem} {l : AV} {n : Nat} {f : Nat → Int} (C : AV → List AV) (h : listE env l = some (n, f)) (h1 : ∀ θ l, renL θ (C l) = C (l.ren θ)) (h2 : ∀ l, refsL (C l) = refs l) :
    (l = .nilslice ∧ n = 0 ∧ (f = fun _ => 0) ∧ Laid env (C .nilslice) (C .nilslice) [] []) ∨
    ∃ p o1 c items ty, l = .slice p o1 n c ∧ Laid env (C (.slice p o1 n c)) (C (.slice 0 o1 n c)) [p] [⟨items, ty⟩] ∧ n ≤ c ∧ refsL items = [] ∧ (∃ o F, rowB 3 .i64 (some ⟨items, ty⟩) o1 n = some (n, o, F) ∧ f = fun j => F (o + j)) ∧
      (∀ (ts : List AV) (x : List Blk) (df : List (FuncId × List AV)), listE (St.mem ⟨ts, (⟨items, ty⟩ : Blk) :: x, df⟩) (.slice 0 o1 n c) = some (n, f)) ∧
      (∀ (ts : List AV) (x : List Blk) (df : List (FuncId × List AV)) (l : List Nat), 0 ∈ l → listE (envOf (St.mem ⟨ts, (⟨items, ty⟩ : Blk) :: x, df⟩) l) (.slice 0 o1 n c) = some (n, f)) ∧
      (∀ i, i < n → ∀ fs z q, loadB ⟨.struct fs, 3, z, q⟩ ⟨items, ty⟩ (o1 + i * 3) = some (.agg [.int .i64 (f (i * 3)), .int .i64 (f (i * 3 + 1)), .int .i64 (f (i * 3 + 2))])) := by
  rcases listE_cases h with ⟨rfl, rfl, rfl⟩ | ⟨p, o1, c, rfl⟩
  · exact .inl ⟨rfl, rfl, rfl, laid0 (by rw [h2]; rfl)⟩
  · obtain ⟨-, hnc, items, ty, hp, hr, ⟨o, F, hrow, hf⟩, hload⟩ := listE_slice h
    refine .inr ⟨p, o1, c, items, ty, rfl, laid1 _ ?_ ?_ hp hr, hnc, hr, ⟨o, F, hrow, hf⟩, listE_own hrow hf hnc, listE_ownE hrow hf hnc, hload⟩
    · rw [h1]; rfl
    · intro b hb
      rw [h2] at hb
      simp [refs] at hb
      omega
end Go.X
end

section
namespace Go.X
open Go.Proofs
attribute [local irreducible] Good
attribute [simp] Tryz.T_200
attribute [simp] Tryz.T_146
attribute [simp] Tryz.T_174
def lnP (p q r : Nat → Int) : Prop := crX (q 0 - p 0) (q 1 - p 1) (q 2 - p 2) (r 0 - p 0) (r 1 - p 1) (r 2 - p 2) = 0 ∧ crY (q 0 - p 0) (q 1 - p 1) (q 2 - p 2) (r 0 - p 0) (r 1 - p 1) (r 2 - p 2) = 0 ∧ crZ (q 0 - p 0) (q 1 - p 1) (q 2 - p 2) (r 0 - p 0) (r 1 - p 1) (r 2 - p 2) = 0
def dtP (p q r s : Nat → Int) : Int := dtI (q 0 - p 0) (q 1 - p 1) (q 2 - p 2) (r 0 - p 0) (r 1 - p 1) (r 2 - p 2) (s 0 - p 0) (s 1 - p 1) (s 2 - p 2)
def ptF (f : Nat → Int) (i : Nat) (j : Nat) : Int := f (i * 3 + j)
def pt3 (x y z : Int) (j : Nat) : Int := if j = 0 then x else if j = 1 then y else z
def Raise (m : Nat) (F p : Nat → Int) : Prop := m = 0 ∨ (m = 1 ∧ ¬ (p 0 = F 0 ∧ p 1 = F 1 ∧ p 2 = F 2)) ∨ (m = 2 ∧ ¬ lnP (ptF F 0) (ptF F 1) p) ∨ (m = 3 ∧ dtP (ptF F 0) (ptF F 1) (ptF F 2) p ≠ 0)
noncomputable instance (m : Nat) (F p : Nat → Int) : Decidable (Raise m F p) := Classical.propDecidable _
theorem PtN.sub {a b : Int} (ha : PtN a) (hb : PtN b) : InI (a - b) := by unfold PtN InI at *; omega
theorem PtN.in {a : Int} (ha : PtN a) : InI a := by unfold PtN InI at *; omega
theorem det_w {a b c x y z u v w : Int} (ha : InI a) (hb : InI b) (hc : InI c) (hx : InI x) (hy : InI y) (hz : InI z) (hu : InI u) (hv : InI v) (hw : InI w) : InW (dtI a b c x y z u v w) := by
  have k1 : Bd 127 (crX x y z u v w) := cr_bd hy hw hz hv
  have k2 : Bd 127 (crY x y z u v w) := cr_bd hz hu hx hw
  have k3 : Bd 127 (crZ x y z u v w) := cr_bd hx hv hy hu
  exact (((k1.mul (Bd.of ha)).add (k2.mul (Bd.of hb))).add ((k3.mul (Bd.of hc)).mono (by decide : 190 ≤ 191))).w (by decide)
theorem two_same {a b c : Blk} : ∀ i, i < 2 → [a, b, c][i]? = [a, b][i]? := by
  intro i hi
  rcases (show i = 0 ∨ i = 1 by omega) with rfl | rfl <;> rfl
theorem sgn_beq {z : Int} : (sgnI z == 0) = decide (z = 0) ∧ (sgnI z != 0) = decide (z ≠ 0) := by
  by_cases h : z = 0
  · subst h; simp
  · have k : ¬ sgnI z = 0 := fun e => h (sgnI_zero.1 e)
    simp [h, k]
noncomputable def raisesS : Sum := fun args env _ => match args with
  | [.ptr p 0, .agg [.int .i64 x, .int .i64 y, .int .i64 z]] => match env p with
    | some ⟨[l], _⟩ => match listE env l with
      | some (m, F) => open Classical in if PtN x ∧ PtN y ∧ PtN z ∧ (∀ j, j < m * 3 → PtN (F j)) then .val (.bool (decide (Raise m F (pt3 x y z)))) [] [] else .fail
      | none => .fail
    | _ => .fail
  | _ => .fail
theorem laid_box {env : Mem} {p q o n c : Nat} {ty : TypeId} {B : Blk} {rest : List AV} (hp : env p = some ⟨[.slice q o n c], ty⟩) (hq : env q = some B) (hB : refsL B.items = []) (hne : p ≠ q) (hr : refsL rest = []) :
    Laid env (.ptr p 0 :: rest) (.ptr 0 0 :: rest) [p, q] [⟨[.slice 1 o n c], ty⟩, B] := by
  have two : ∀ i, i < 2 → i = 0 ∨ i = 1 := by omega
  refine ⟨?_, rfl, by simp [hne], ?_, ?_, ?_⟩
  · simp only [renL, AV.ren]
    rw [renL_noref _ _ hr]
    rfl
  · intro b hb
    simp only [refsL, refs, hr, List.append_nil, List.mem_singleton] at hb
    subst hb
    simp
  · intro i hi
    rcases two i hi with rfl | rfl
    · simp [hp, renL, AV.ren]
    · simp [hq, renL_noref _ _ hB]
  · intro i hi b hb
    rcases two i hi with rfl | rfl
    · simp [refsL, refs] at hb
      subst hb
      simp
    · simp [hB] at hb
set_option maxHeartbeats 40000000 in
set_option maxRecDepth 100000 in
theorem raises_ok : SumOk Tryz.prog 185 raisesS := by
  refine sum_read (L := fun _ => none) (n := 1) (S := stOf [(194, pureS oLessS), (193, pureS gCrossS), (195, pureS gDetS), (70, pureS signS)]) drawS Tryz.T_ok (stOf_ok (by simp [oLess_ok, gCross_ok, gDet_ok, sign_ok])) Tryz.func185 rfl (by kernel_rfl) (by kernel_rfl) ?_
  intro args env nxt h
  unfold raisesS at h ⊢
  split at h
  · rename_i p x y z
    split at h
    · rename_i l ty hp
      split at h
      · rename_i m F hl
        split at h
        · rename_i hc
          obtain ⟨hx, hy, hz, hF⟩ := id hc
          simp only [if_pos hc]
          unfold listE at hl
          split at hl
          · simp only [Option.some.injEq, Prod.mk.injEq] at hl
            obtain ⟨rfl, rfl⟩ := hl
            refine ⟨_, _, _, .bool (decide (Raise 0 (fun _ => 0) (pt3 x y z))), laid1 [.ptr 0 0, .agg [.int .i64 x, .int .i64 y, .int .i64 z]] rfl (by simp) hp rfl, rfl, rfl, rfl, ?_⟩
            simp [Tryz.f185, Raise]
          · rename_i q o1 n c
            split at hl
            · rename_i n' o G hrow
              split at hl
              · rename_i hcc
                obtain ⟨rfl, hnc⟩ := hcc
                simp only [Option.some.injEq, Prod.mk.injEq] at hl
                obtain ⟨rfl, rfl⟩ := hl
                obtain ⟨B, hq⟩ : ∃ B, env q = some B := by
                  cases hq : env q with
                  | none => rw [hq] at hrow; simp [rowB] at hrow
                  | some B => exact ⟨B, rfl⟩
                rw [hq] at hrow
                have hB := rowB_noref hrow
                have hne : p ≠ q := by
                  rintro rfl
                  rw [hp] at hq
                  cases hq
                  simp [refsL, refs] at hB
                refine ⟨_, _, _, .bool (decide (Raise n' (fun j => G (o + j)) (pt3 x y z))), laid_box hp hq hB hne (by simp), rfl, rfl, rfl, ?_⟩
                have L0 : 0 < n' → ∀ fs z q, loadB ⟨.struct fs, 3, z, q⟩ B o1 = some (.agg [.int .i64 (G o), .int .i64 (G (o + 1)), .int .i64 (G (o + 2))]) := fun h0 fs z q => by simpa using loadB_three (ti := ⟨.struct fs, 3, z, q⟩) rfl rfl hrow h0
                have L1 : 1 < n' → ∀ fs z q, loadB ⟨.struct fs, 3, z, q⟩ B (o1 + 3) = some (.agg [.int .i64 (G (o + 3)), .int .i64 (G (o + 4)), .int .i64 (G (o + 5))]) := fun h0 fs z q => by simpa using loadB_three (ti := ⟨.struct fs, 3, z, q⟩) rfl rfl hrow h0
                have L2 : 2 < n' → ∀ fs z q, loadB ⟨.struct fs, 3, z, q⟩ B (o1 + 6) = some (.agg [.int .i64 (G (o + 6)), .int .i64 (G (o + 7)), .int .i64 (G (o + 8))]) := fun h0 fs z q => by simpa using loadB_three (ti := ⟨.struct fs, 3, z, q⟩) rfl rfl hrow h0
                by_cases n0 : n' = 0
                · subst n0
                  simp [Tryz.f185, Raise]
                  try exact two_same
                · have M0 := L0 (by omega)
                  have a0 : PtN (G o) := hF 0 (by omega)
                  have a1 : PtN (G (o + 1)) := hF 1 (by omega)
                  have a2 : PtN (G (o + 2)) := hF 2 (by omega)
                  by_cases n1 : n' = 1
                  · subst n1
                    by_cases c0 : x = G o <;> by_cases c1 : y = G (o + 1) <;> by_cases c2 : z = G (o + 2) <;>
                      (simp [Tryz.f185, Raise, M0, pt3, c0, c1, c2]; try exact two_same)
                  · have M1 := L1 (by omega)
                    have b0 : PtN (G (o + 3)) := hF 3 (by omega)
                    have b1 : PtN (G (o + 4)) := hF 4 (by omega)
                    have b2 : PtN (G (o + 5)) := hF 5 (by omega)
                    by_cases n2 : n' = 2
                    · subst n2
                      have k1 := cr_bd (b1.sub a1) (hz.sub a2) (b2.sub a2) (hy.sub a1)
                      have k2 := cr_bd (b2.sub a2) (hx.sub a0) (b0.sub a0) (hz.sub a2)
                      have k3 := cr_bd (b0.sub a0) (hy.sub a1) (b1.sub a1) (hx.sub a0)
                      simp [Tryz.f185, Raise, M0, M1, pt3, a0.in, a1.in, a2.in, b0.in, b1.in, b2.in, hx.in, hy.in, hz.in, b0.sub a0, b1.sub a1, b2.sub a2, hx.sub a0, hy.sub a1, hz.sub a2, lnP, ptF, crX, crY, crZ, eqArr_iff (R8_limb _) R8_zero, sval_zero, sval_limb (k1.w (by decide)), sval_limb (k2.w (by decide)), sval_limb (k3.w (by decide))]
                      try exact two_same
                    · have M2 := L2 (by omega)
                      have d0 : PtN (G (o + 6)) := hF 6 (by omega)
                      have d1 : PtN (G (o + 7)) := hF 7 (by omega)
                      have d2 : PtN (G (o + 8)) := hF 8 (by omega)
                      by_cases n3 : n' = 3
                      · subst n3
                        have kw := det_w (b0.sub a0) (b1.sub a1) (b2.sub a2) (d0.sub a0) (d1.sub a1) (d2.sub a2) (hx.sub a0) (hy.sub a1) (hz.sub a2)
                        simp [Tryz.f185, Raise, M0, M1, M2, pt3, a0.in, a1.in, a2.in, b0.in, b1.in, b2.in, d0.in, d1.in, d2.in, hx.in, hy.in, hz.in, b0.sub a0, b1.sub a1, b2.sub a2, d0.sub a0, d1.sub a1, d2.sub a2, hx.sub a0, hy.sub a1, hz.sub a2, dtP, ptF, R8_limb, sval_limb kw, sgn_beq.2]
                        try exact two_same
                      · have k0 : ((n' : Int) == 0) = false := by simp; omega
                        have k1 : ((n' : Int) == 1) = false := by simp; omega
                        have k2 : ((n' : Int) == 2) = false := by simp; omega
                        have k3 : ((n' : Int) == 3) = false := by simp; omega
                        simp [Tryz.f185, Raise, n0, n1, n2, n3, k0, k1, k2, k3]
                        try exact two_same
              · simp at hl
            · simp at hl
          · simp at hl
        · simp [*] at h
      · rename_i hl; simp at h
    · simp at h
  · simp at h
end Go.X
end

section
namespace Go.X
open Go.Proofs
attribute [local irreducible] Good
theorem LA.toE {m : List Blk} {e : TypeId} {d : AV} {n : Nat} {F : Nat → Int} (h : LA m 3 e d n F) : listE (fun b => m[b]?) d = some (n, cutL (n * 3) F) := by
  rcases h with ⟨rfl, rfl⟩ | ⟨p, c, rfl, hp⟩
  · have e : cutL (0 * 3) F = fun _ => 0 := by funext j; unfold cutL; rw [if_neg (by omega)]
    rw [e]
    rfl
  · simp only [listE, hp, rowB]
    rw [if_pos ⟨by first | rfl | trivial, by rw [Nat.add_mul]; omega⟩]
    try simp
theorem modify_end {m : List Blk} {b : Blk} {f : Blk → Blk} : (m ++ [b]).modify m.length f = m ++ [f b] := by
  apply List.ext_getElem?
  intro i
  rw [List.getElem?_modify]
  rcases Nat.lt_trichotomy i m.length with h | h | h
  · rw [List.getElem?_append_left h, List.getElem?_append_left h]
    simp [show ¬ m.length = i by omega]
  · subst h; simp
  · rw [List.getElem?_eq_none (by simp; omega), List.getElem?_eq_none (by simp; omega)]; simp
noncomputable def fineLS : Sum := fun args env _ => match args with
  | [.slice p o n c] => match listE env (.slice p o n c) with
    | some (n', F) => open Classical in if n' ≤ 256 ∧ (∀ j, j < n' * 3 → PtN (F j)) then .val (.bool true) [] [] else .fail
    | none => .fail
  | _ => .fail
noncomputable def fineLoop : Code := match Tryz.f186.body with | some (.seq _ (.seq (.seq _ (.block _ (.loop c))) _)) => c | _ => .skip
noncomputable def fineP (l : AV) (n : Nat) (i : Option AV) : List (Option AV) := [some l, none, none, none, none, some l, some (.int .i64 n), i, none, none, none, none, none, none, none]
set_option maxHeartbeats 4000000 in
theorem fine_loop {items : List AV} {ty : TypeId} {o1 n c : Nat} {f : Nat → Int} (hn : n ≤ 256) (hF : ∀ j, j < n * 3 → PtN (f j))
    (hload : ∀ i, i < n → ∀ fs z q, loadB ⟨.struct fs, 3, z, q⟩ ⟨items, ty⟩ (o1 + i * 3) = some (.agg [.int .i64 (f (i * 3)), .int .i64 (f (i * 3 + 1)), .int .i64 (f (i * 3 + 2))])) {Q : Ex → St → Prop}
    (hQ : ∀ (ts : List AV) (m : List Blk), Fits (fineP (.slice 0 o1 n c) n none) ts → m[0]? = some ⟨items, ty⟩ → Q (.exit 0) ⟨ts, m, []⟩)
    {ts : List AV} {m0 : List Blk} (hm0 : m0[0]? = some ⟨items, ty⟩) (h0 : Fits (fineP (.slice 0 o1 n c) n (some (.int .i64 0))) ts) :
    Good (loopA (exec Tryz.T (stOf [(169, pureS gCheckS)]) (fun _ => none) 300 fineLoop) 300 ⟨ts, m0, []⟩) Q := by
  refine loop_rule (fun k s => ∃ i : Nat, i + k = n ∧ Fits (fineP (.slice 0 o1 n c) n (some (.int .i64 i))) s.ts ∧ s.m[0]? = some ⟨items, ty⟩ ∧ s.df = []) ?_ 300 n _ (by omega) ⟨0, by omega, h0, hm0, rfl⟩
  rintro k ⟨ts, m, df⟩ ⟨i, hik, hfit, hm, hd⟩
  simp only at hfit hm hd
  subst hd
  obtain ⟨g, rfl⟩ := fits_of hfit 0
  by_cases hi : i < n
  · have hi1 : (i : Int) < n := by omega
    have w1 : IntKind.i64.wrap ((i : Int) + 1) = i + 1 := wrap_i64_in (by omega) (by omega)
    have hlen : 0 < m.length := (List.getElem?_eq_some_iff.1 hm).1
    have N0 : ∀ (h : 0 < m.length), m[0]'h = ⟨items, ty⟩ := fun h => Option.some.inj ((List.getElem?_eq_getElem h).symm.trans hm)
    have l0 := hload i hi
    have p0 : PtN (f (i * 3)) := hF _ (by omega)
    have p1 : PtN (f (i * 3 + 1)) := hF _ (by omega)
    have p2 : PtN (f (i * 3 + 2)) := hF _ (by omega)
    have pp : Pt3 (f (i * 3)) (f (i * 3 + 1)) (f (i * 3 + 2)) := ⟨p0, p1, p2⟩
    simp [fineLoop, fineP, Tryz.f186, hi1, w1, hlen, N0, l0, p0.in, p1.in, p2.in, pp, modify_end]
    exact ⟨k - 1, by omega, i + 1, by omega, by omega⟩
  · have : i = n := by omega
    subst this
    simp [fineLoop, fineP, Tryz.f186]
    exact hQ _ _ (by simp [fineP]) hm
theorem fineL_ok : SumOk Tryz.prog 186 fineLS := by
  refine sum_read (L := fun _ => none) (n := 300) (S := stOf [(169, pureS gCheckS)]) drawS Tryz.T_ok (stOf_ok (by simp [gCheck_ok])) Tryz.func186 rfl (by kernel_rfl) (by kernel_rfl) ?_
  intro args env nxt h
  unfold fineLS at h ⊢
  split at h
  · rename_i p o1 n c
    split at h
    · rename_i n' f hl
      split at h
      · rename_i hc
        obtain ⟨hn, hF⟩ := id hc
        simp only [if_pos hc]
        obtain ⟨rfl, hnc, items, ty, hp, hr, -, hload⟩ := listE_slice hl
        refine ⟨_, _, _, .bool true, laid1 [.slice 0 o1 n' c] rfl (by simp) hp hr, rfl, rfl, rfl, ?_⟩
        simp [-loopA_succ, Tryz.f186]
        simp only [good_bind, good_unblock]
        refine fine_loop (c := c) hn hF hload (fun ts m hfit hm => ?_) rfl ?_
        · obtain ⟨g, rfl⟩ := fits_of hfit 0
          have hlen : 0 < m.length := (List.getElem?_eq_some_iff.1 hm).1
          simp [fineP, hm]
          omega
        · simp [fineP]
      · simp [*] at h
    · simp [*] at h
  · simp at h
end Go.X
end
