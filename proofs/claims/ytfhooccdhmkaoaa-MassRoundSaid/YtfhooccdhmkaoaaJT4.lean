/- Rounding up; quotients of the reference; clamps; a vector that moves. -/
import Derived.Test.YtfhooccdhmkaoaaJMX
namespace Go.X
open Go.Proofs
attribute [local irreducible] Good

/-- rounded up -/
def ceilI (a : Int) : Int := if a % 4294967296 = 0 then a / 4294967296 else a / 4294967296 + 1
def minI (a b : Int) : Int := if b < a then b else a
/-- brought between two -/
def betw (a l h : Int) : Int := if a < l then l else if h < a then h else a
theorem InW_one : InW 1 := InI.w (by decide)
theorem InW_32 : InW 4294967296 := InI.w (by decide)
theorem ceil_bd {n : Int} (h : Bd 126 n) : Bd 127 (ceilI n) := by
  have h1 := (h.half 32).mono (by decide : 126 ≤ 127)
  unfold ceilI Bd at *
  simp only [show (2 : Int) ^ 32 = 4294967296 from rfl] at h1
  split <;> omega
theorem remI_32 {n : Int} : remI n 4294967296 = n % 4294967296 ∧ quoI n 4294967296 = n / 4294967296 := by
  have e : quoI n 4294967296 = n / 4294967296 := by unfold quoI; rw [if_pos (by decide)]
  refine ⟨?_, e⟩
  unfold remI
  rw [e]
  have := Int.mul_ediv_add_emod n 4294967296
  omega

noncomputable def fupUS : List AV → PR
  | [] => .val (.bool true)
  | _ => .fail
@[simp] theorem fupUS_val : fupUS [] = .val (.bool true) := rfl
theorem fupU_ok : SumOk Try.prog 195 (pureS fupUS) := by
  refine sum_fn (L := fun _ => none) (n := 1) (S := stOf []) drawS Try.T_ok (stOf_ok (by simp)) Try.func195 rfl (by kernel_rfl) (by kernel_rfl) ?_
    (by intro args v h; unfold fupUS at h; split at h <;> (try split at h) <;> simp at h)
  intro args v h
  unfold fupUS at h
  split at h
  · skip
    cases h
    refine ⟨by simp, by simp, by simp, ?_⟩
    simp [Try.f195]
  · simp at h

noncomputable def fquoUS : List AV → PR
  | [.arr .u64 8 f, .arr .u64 8 g] => open Classical in if R8 f ∧ R8 g ∧ sval g = 4294967296 ∧ Bd 126 (sval f) then .val (W (ceilI (sval f))) else .fail
  | _ => .fail
@[simp] theorem fquoUS_val {f g : Nat → Int} (h : R8 f ∧ R8 g ∧ sval g = 4294967296 ∧ Bd 126 (sval f)) : fquoUS [.arr .u64 8 f, .arr .u64 8 g] = .val (W (ceilI (sval f))) := if_pos h
theorem fquoU_ok : SumOk Try.prog 182 (pureS fquoUS) := by
  refine sum_fn (L := fun i => if i = 3 then some (.quiet 3) else none) (n := 1) (S := stOf [(101, pureS fsumS), (195, pureS fupUS), (74, pureS divS), (97, pureS ofS), (111, pureS signS)]) drawS Try.T_ok (stOf_ok (by simp [fsum_ok, fupU_ok, div_ok, of_ok, sign_ok])) Try.func182 rfl (by kernel_rfl) (by kernel_rfl) ?_
    (by intro args v h; unfold fquoUS at h; split at h <;> (try split at h) <;> simp at h)
  intro args v h
  unfold fquoUS at h
  split at h
  · rename_i f g
    split at h
    · rename_i hc
      obtain ⟨hf, hg, e0, e1⟩ := hc
      cases h
      refine ⟨by simp, by simp, by simp, ?_⟩
      have c1 := (ceil_bd e1).w (by decide)
      obtain ⟨k1, k2⟩ := remI_32 (n := sval f)
      have d1 : Bd 126 (sval f / 4294967296) := by simpa using e1.half 32
      have d2 := d1.w (by decide)
      have d3 : 0 ≤ sval f % 4294967296 ∧ sval f % 4294967296 < 4294967296 := by omega
      have d4 : InW (sval f % 4294967296) := InI.w (by unfold InI; omega)
      by_cases hr : sval f % 4294967296 = 0
      · have c2 : ceilI (sval f) = sval f / 4294967296 := by unfold ceilI; rw [if_pos hr]
        rw [c2]
        simp [hf, hg, R8_limb, quoV, k1, k2, d2, Try.f182, e0, hr]
      · have c2 : ceilI (sval f) = sval f / 4294967296 + 1 := by unfold ceilI; rw [if_neg hr]
        have c3 : sgnI (sval f % 4294967296) = 1 := by unfold sgnI; rw [if_neg (by omega), if_neg (by omega)]
        rw [c2] at c1 ⊢
        have c4 := sval_limb c1
        simp [hf, hg, R8_limb, quoV, k1, k2, d2, sval_limb d2, sval_limb d4, ofS_in InI_1, Try.f182, e0, c1, c3, sval_limb InW_one]
    · simp at h
  · simp at h

noncomputable def ftimUS : List AV → PR
  | [.int .i64 a, .int .i64 b] => open Classical in if InI a ∧ InI b then .val (.int .i64 (clampI (ceilI (a * b)))) else .fail
  | _ => .fail
@[simp] theorem ftimUS_val {a b : Int} (h : InI a ∧ InI b) : ftimUS [.int .i64 a, .int .i64 b] = .val (.int .i64 (clampI (ceilI (a * b)))) := if_pos h
theorem ftimU_ok : SumOk Try.prog 153 (pureS ftimUS) := by
  refine sum_fn (L := fun _ => none) (n := 1) (S := stOf [(182, pureS fquoUS), (102, pureS frawS), (100, pureS fwithinS), (115, pureS mulS), (97, pureS ofS)]) drawS Try.T_ok (stOf_ok (by simp [fquoU_ok, fraw_ok, fwithin_ok, mul_ok, of_ok])) Try.func153 rfl (by kernel_rfl) (by kernel_rfl) ?_
    (by intro args v h; unfold ftimUS at h; split at h <;> (try split at h) <;> simp at h)
  intro args v h
  unfold ftimUS at h
  split at h
  · rename_i a b
    split at h
    · rename_i hc
      obtain ⟨ha, hb⟩ := hc
      cases h
      refine ⟨by simp, by simp, by simp, ?_⟩
      have i0 : InW (a * b) := ((Bd.of ha).mul (Bd.of hb)).w (by decide)
      have q0 := (ceil_bd ((Bd.of ha).mul (Bd.of hb))).w (by decide)
      have q1 : Bd 126 (a * b) := (Bd.of ha).mul (Bd.of hb)
      simp [Try.f153, ha, hb, fitI ha, fitI hb, i0, sval_limb i0, R8_limb, q1, sval_limb q0, ofS_in InI_one, fitV, sval_limb InW_32]
    · simp at h
  · simp at h

noncomputable def fMulUpS : List AV → PR
  | [.int .i64 a, .int .i64 b] => open Classical in if InI a ∧ InI b then .val (.int .i64 (clampI (ceilI (a * b)))) else .fail
  | _ => .fail
@[simp] theorem fMulUpS_val {a b : Int} (h : InI a ∧ InI b) : fMulUpS [.int .i64 a, .int .i64 b] = .val (.int .i64 (clampI (ceilI (a * b)))) := if_pos h
theorem fMulUp_ok : SumOk Try.prog 104 (pureS fMulUpS) := by
  refine sum_fn (L := fun _ => none) (n := 1) (S := stOf [(153, pureS ftimUS)]) drawS Try.T_ok (stOf_ok (by simp [ftimU_ok])) Try.func104 rfl (by kernel_rfl) (by kernel_rfl) ?_
    (by intro args v h; unfold fMulUpS at h; split at h <;> (try split at h) <;> simp at h)
  intro args v h
  unfold fMulUpS at h
  split at h
  · rename_i a b
    split at h
    · rename_i hc
      obtain ⟨ha, hb⟩ := hc
      cases h
      refine ⟨by simp, by simp, by simp, ?_⟩
      simp [Try.f104, ha, hb]
    · simp at h
  · simp at h

noncomputable def fclampS : List AV → PR
  | [.int .i64 a, .int .i64 l, .int .i64 k] => open Classical in if l ≤ k then .val (.int .i64 (betw a l k)) else .fail
  | _ => .fail
@[simp] theorem fclampS_val {a l k : Int} (h : l ≤ k) : fclampS [.int .i64 a, .int .i64 l, .int .i64 k] = .val (.int .i64 (betw a l k)) := if_pos h
theorem fclamp_ok : SumOk Try.prog 147 (pureS fclampS) := by
  refine sum_fn (L := fun _ => none) (n := 1) (S := stOf []) drawS Try.T_ok (stOf_ok (by simp)) Try.func147 rfl (by kernel_rfl) (by kernel_rfl) ?_
    (by intro args v h; unfold fclampS at h; split at h <;> (try split at h) <;> simp at h)
  intro args v h
  unfold fclampS at h
  split at h
  · rename_i a l k
    split at h
    · rename_i hc
      have e0 := hc
      cases h
      refine ⟨by simp, by simp, by simp, ?_⟩
      by_cases h1 : a < l
      · simp [Try.f147, betw, h1]
      · by_cases h2 : k < a
        · simp [Try.f147, betw, h1, h2]
        · simp [Try.f147, betw, h1, h2]
    · simp at h
  · simp at h

noncomputable def r2clampS : List AV → PR
  | [.int .i64 a, .int .i64 l, .int .i64 k] => open Classical in if l ≤ k then .val (.int .i64 (betw a l k)) else .fail
  | _ => .fail
@[simp] theorem r2clampS_val {a l k : Int} (h : l ≤ k) : r2clampS [.int .i64 a, .int .i64 l, .int .i64 k] = .val (.int .i64 (betw a l k)) := if_pos h
noncomputable def r2quoS : List AV → PR
  | [.arr .u64 8 f, .arr .u64 8 g, .bool false] => open Classical in if R8 f ∧ R8 g ∧ sval g ≠ 0 ∧ InW (quoI (sval f) (sval g)) then .val (W (quoI (sval f) (sval g))) else .fail
  | _ => .fail
@[simp] theorem r2quoS_val {f g : Nat → Int} (h : R8 f ∧ R8 g ∧ sval g ≠ 0 ∧ InW (quoI (sval f) (sval g))) : r2quoS [.arr .u64 8 f, .arr .u64 8 g, .bool false] = .val (W (quoI (sval f) (sval g))) := if_pos h
noncomputable def r2divS : List AV → PR
  | [.int .i64 a, .int .i64 b, .bool false] => open Classical in if InI a ∧ InI b ∧ b ≠ 0 then .val (.int .i64 (clampI (quoI (a * 4294967296) b))) else .fail
  | _ => .fail
@[simp] theorem r2divS_val {a b : Int} (h : InI a ∧ InI b ∧ b ≠ 0) : r2divS [.int .i64 a, .int .i64 b, .bool false] = .val (.int .i64 (clampI (quoI (a * 4294967296) b))) := if_pos h
noncomputable def vsum2S : Sum := fun args env _ => match args with
  | [.slice b 0 2 _] => match env b with
    | some ⟨[.arr .u64 8 f, .arr .u64 8 g], _⟩ => open Classical in if R8 f ∧ R8 g ∧ InW (sval f + sval g) then .val (W (sval f + sval g)) [] [] else .fail
    | _ => .fail
  | _ => .fail
theorem vsum2_ok : SumOk Try.prog 144 vsum2S := by
  refine sum_read (L := fun _ => none) (n := 4) (S := stOf [(114, pureS addS)]) drawS Try.T_ok (stOf_ok (by simp [add_ok])) Try.func144 rfl (by kernel_rfl) (by kernel_rfl) ?_
  intro args env nxt h
  unfold vsum2S at h ⊢
  split at h
  · rename_i b c
    split at h
    · rename_i f g ty0 m0
      split at h
      · rename_i hc
        obtain ⟨hf, hg, e0⟩ := id hc
        refine ⟨_, _, _, W (sval f + sval g), laid1 [.slice 0 0 2 c] rfl (by simp) m0 rfl, by first | exact if_pos hc | (simp only [m0]; exact if_pos hc) | (simp [m0]; exact hc), by simp, by simp, ?_⟩
        have w1 : InW (sval f) := sval_range hf
        have w2 := sval_limb w1
        have w3 := sval_limb e0
        simp [Try.f144, hf, hg, e0, R8_limb, fitV, R8_zero, sval_zero, w1, w2]
      · simp at h
    · simp at h
  · simp at h

noncomputable def vmove1S : Sum := fun args env _ => match args with
  | [.int .i64 x, .int .i64 y, .ptr p 0] => match env p with
    | some ⟨[.int .i64 t], _⟩ => open Classical in if InI x ∧ InI y ∧ InI t then .val (.int .i64 (clampI ((x * 4294967296 + y * t) / 4294967296))) [] [] else .fail
    | _ => .fail
  | _ => .fail
theorem vmove1_ok : SumOk Try.prog 179 vmove1S := by
  refine sum_read (L := fun _ => none) (n := 1) (S := stOf [(178, pureS vrawS), (72, pureS shlS), (145, pureS vtimesS), (144, vsum2S), (64, pureS finS)]) drawS Try.T_ok (stOf_ok (by simp [vraw_ok, shl_ok, vtimes_ok, vsum2_ok, fin_ok])) Try.func179 rfl (by kernel_rfl) (by kernel_rfl) ?_
  intro args env nxt h
  unfold vmove1S at h ⊢
  split at h
  · rename_i x y p
    split at h
    · rename_i t ty0 m0
      split at h
      · rename_i hc
        obtain ⟨hx, hy, ht⟩ := id hc
        refine ⟨_, _, _, .int .i64 (clampI ((x * 4294967296 + y * t) / 4294967296)), laid1 [.int .i64 x, .int .i64 y, .ptr 0 0] rfl (by simp) m0 rfl, by first | exact if_pos hc | (simp only [m0]; exact if_pos hc) | (simp [m0]; exact hc), by simp, by simp, ?_⟩
        have s1 : Bd 95 (x * 4294967296) := by simpa using (Bd.of hx).shl 32
        have s2 := s1.w (by decide)
        have s3 : Bd 127 (x * 4294967296 + y * t) := (s1.mono (by decide)).add ((Bd.of hy).mul (Bd.of ht))
        have s4 := s3.w (by decide)
        have s5 := ((Bd.of hy).mul (Bd.of ht)).w (by decide)
        simp [Try.f179, hx, hy, ht, R8_limb, shlV, fitV, s2, sval_limb s2, s4, sval_limb s4, sval_limb s5, sval_limb (InI.w hx), vsum2S]
      · simp at h
    · simp at h
  · simp at h

noncomputable def veachMS : Sum := fun args env _ => match args with
  | [.agg [.int .i64 u, .int .i64 v, .int .i64 w], .agg [.int .i64 x, .int .i64 y, .int .i64 z], .fn 179 [.ptr p 0]] => match env p with
    | some ⟨[.int .i64 t], _⟩ => open Classical in if InI u ∧ InI v ∧ InI w ∧ InI x ∧ InI y ∧ InI z ∧ InI t then .val (.agg [.int .i64 (clampI ((u * 4294967296 + x * t) / 4294967296)), .int .i64 (clampI ((v * 4294967296 + y * t) / 4294967296)), .int .i64 (clampI ((w * 4294967296 + z * t) / 4294967296))]) [] [] else .fail
    | _ => .fail
  | _ => .fail
theorem veachM_ok : SumOk Try.prog 142 veachMS := by
  refine sum_read (L := fun i => if i = 1 then some (.quiet 19) else none) (n := 1) (S := stOf [(179, vmove1S)]) drawS Try.T_ok (stOf_ok (by simp [vmove1_ok])) Try.func142 rfl (by kernel_rfl) (by kernel_rfl) ?_
  intro args env nxt h
  unfold veachMS at h ⊢
  split at h
  · rename_i u v w x y z p
    split at h
    · rename_i t ty0 m0
      split at h
      · rename_i hc
        obtain ⟨hu, hv, hw, hx, hy, hz, ht⟩ := id hc
        refine ⟨_, _, _, .agg [.int .i64 (clampI ((u * 4294967296 + x * t) / 4294967296)), .int .i64 (clampI ((v * 4294967296 + y * t) / 4294967296)), .int .i64 (clampI ((w * 4294967296 + z * t) / 4294967296))], laid1 [.agg [.int .i64 u, .int .i64 v, .int .i64 w], .agg [.int .i64 x, .int .i64 y, .int .i64 z], .fn 179 [.ptr 0 0]] rfl (by simp) m0 rfl, by first | exact if_pos hc | (simp only [m0]; exact if_pos hc) | (simp [m0]; exact hc), by simp, by simp, ?_⟩
        simp [Try.f142, hu, hv, hw, hx, hy, hz, ht, vmove1S]
      · simp at h
    · simp at h
  · simp at h

noncomputable def vMoveS : List AV → PR
  | [.agg [.int .i64 a, .int .i64 b, .int .i64 c], .agg [.int .i64 d, .int .i64 e, .int .i64 f], .int .i64 t] => open Classical in if InI a ∧ InI b ∧ InI c ∧ InI d ∧ InI e ∧ InI f ∧ InI t then .val (.agg [.int .i64 (clampI ((a * 4294967296 + d * t) / 4294967296)), .int .i64 (clampI ((b * 4294967296 + e * t) / 4294967296)), .int .i64 (clampI ((c * 4294967296 + f * t) / 4294967296))]) else .fail
  | _ => .fail
@[simp] theorem vMoveS_val {a b c d e f t : Int} (h : InI a ∧ InI b ∧ InI c ∧ InI d ∧ InI e ∧ InI f ∧ InI t) : vMoveS [.agg [.int .i64 a, .int .i64 b, .int .i64 c], .agg [.int .i64 d, .int .i64 e, .int .i64 f], .int .i64 t] = .val (.agg [.int .i64 (clampI ((a * 4294967296 + d * t) / 4294967296)), .int .i64 (clampI ((b * 4294967296 + e * t) / 4294967296)), .int .i64 (clampI ((c * 4294967296 + f * t) / 4294967296))]) := if_pos h
theorem vMove_ok : SumOk Try.prog 146 (pureS vMoveS) := by
  refine sum_fn (L := fun _ => none) (n := 1) (S := stOf [(142, veachMS)]) drawS Try.T_ok (stOf_ok (by simp [veachM_ok])) Try.func146 rfl (by kernel_rfl) (by kernel_rfl) ?_
    (by intro args v h; unfold vMoveS at h; split at h <;> (try split at h) <;> simp at h)
  intro args v h
  unfold vMoveS at h
  split at h
  · rename_i a b c d e f t
    split at h
    · rename_i hc
      obtain ⟨ha, hb, hc, hd, he, hf, ht⟩ := hc
      cases h
      refine ⟨by simp, by simp, by simp, ?_⟩
      simp [Try.f146, ha, hb, hc, hd, he, hf, ht, veachMS]
    · simp at h
  · simp at h

noncomputable def r3furtherS : List AV → PR
  | [.int .i64 x, .int .i64 y, .int .i64 t] => open Classical in if InI x ∧ InI y ∧ InI t then .val (.int .i64 (clampI ((x * 4294967296 + y * t) / 4294967296))) else .fail
  | _ => .fail
@[simp] theorem r3furtherS_val {x y t : Int} (h : InI x ∧ InI y ∧ InI t) : r3furtherS [.int .i64 x, .int .i64 y, .int .i64 t] = .val (.int .i64 (clampI ((x * 4294967296 + y * t) / 4294967296))) := if_pos h
noncomputable def r3MoveS : List AV → PR
  | [.agg [.int .i64 a, .int .i64 b, .int .i64 c], .agg [.int .i64 d, .int .i64 e, .int .i64 f], .int .i64 t] => open Classical in if InI a ∧ InI b ∧ InI c ∧ InI d ∧ InI e ∧ InI f ∧ InI t then .val (.agg [.int .i64 (clampI ((a * 4294967296 + d * t) / 4294967296)), .int .i64 (clampI ((b * 4294967296 + e * t) / 4294967296)), .int .i64 (clampI ((c * 4294967296 + f * t) / 4294967296))]) else .fail
  | _ => .fail
@[simp] theorem r3MoveS_val {a b c d e f t : Int} (h : InI a ∧ InI b ∧ InI c ∧ InI d ∧ InI e ∧ InI f ∧ InI t) : r3MoveS [.agg [.int .i64 a, .int .i64 b, .int .i64 c], .agg [.int .i64 d, .int .i64 e, .int .i64 f], .int .i64 t] = .val (.agg [.int .i64 (clampI ((a * 4294967296 + d * t) / 4294967296)), .int .i64 (clampI ((b * 4294967296 + e * t) / 4294967296)), .int .i64 (clampI ((c * 4294967296 + f * t) / 4294967296))]) := if_pos h
end Go.X
