/- Rounding up; quotients of the reference; clamps; a vector that moves. -/
import Derived.Test.YtgfpllfimpgooaaGreatJMX
namespace Go.X
open Go.Proofs
attribute [local irreducible] Good

/-- brought between two -/
def betw (a l h : Int) : Int := if a < l then l else if h < a then h else a
noncomputable def fclampS : List AV → PR
  | [.int .i64 a, .int .i64 l, .int .i64 k] => open Classical in if l ≤ k then .val (.int .i64 (betw a l k)) else .fail
  | _ => .fail
@[simp] theorem fclampS_val {a l k : Int} (h : l ≤ k) : fclampS [.int .i64 a, .int .i64 l, .int .i64 k] = .val (.int .i64 (betw a l k)) := if_pos h
theorem fclamp_ok : SumOk Tryz.prog 96 (pureS fclampS) := by
  refine sum_fn (L := fun _ => none) (n := 1) (S := stOf []) drawS Tryz.T_ok (stOf_ok (by simp)) Tryz.func96 rfl (by kernel_rfl) (by kernel_rfl) ?_
    (by intro args v h; unfold fclampS at h; split at h <;> (try split at h) <;> simp at h)
  intro args v h
  unfold fclampS at h
  split at h
  · rename_i a l k
    split at h
    · rename_i hc
      have e0 := hc
      cases h
      refine ⟨by simp, by simp, by simp, ?_⟩
      by_cases h1 : a < l
      · simp [Tryz.f96, betw, h1]
      · by_cases h2 : k < a
        · simp [Tryz.f96, betw, h1, h2]
        · simp [Tryz.f96, betw, h1, h2]
    · simp at h
  · simp at h

noncomputable def r2clampS : List AV → PR
  | [.int .i64 a, .int .i64 l, .int .i64 k] => open Classical in if l ≤ k then .val (.int .i64 (betw a l k)) else .fail
  | _ => .fail
@[simp] theorem r2clampS_val {a l k : Int} (h : l ≤ k) : r2clampS [.int .i64 a, .int .i64 l, .int .i64 k] = .val (.int .i64 (betw a l k)) := if_pos h
theorem r2clamp_ok : SumOk Tryz.prog 100 (pureS r2clampS) := by
  refine sum_fn (L := fun _ => none) (n := 1) (S := stOf []) drawS Tryz.T_ok (stOf_ok (by simp)) Tryz.func100 rfl (by kernel_rfl) (by kernel_rfl) ?_
    (by intro args v h; unfold r2clampS at h; split at h <;> (try split at h) <;> simp at h)
  intro args v h
  unfold r2clampS at h
  split at h
  · rename_i a l k
    split at h
    · rename_i hc
      have e0 := hc
      cases h
      refine ⟨by simp, by simp, by simp, ?_⟩
      by_cases h1 : a < l
      · simp [Tryz.f100, betw, h1]
      · by_cases h2 : k < a
        · simp [Tryz.f100, betw, h1, h2]
        · simp [Tryz.f100, betw, h1, h2]
    · simp at h
  · simp at h

noncomputable def vsum2S : Sum := fun args env _ => match args with
  | [.slice b 0 2 _] => match env b with
    | some ⟨[.arr .u64 8 f, .arr .u64 8 g], _⟩ => open Classical in if R8 f ∧ R8 g ∧ InW (sval f + sval g) then .val (W (sval f + sval g)) [] [] else .fail
    | _ => .fail
  | _ => .fail
theorem vsum2_ok : SumOk Tryz.prog 169 vsum2S := by
  refine sum_read (L := fun _ => none) (n := 4) (S := stOf [(127, pureS addS)]) drawS Tryz.T_ok (stOf_ok (by simp [add_ok])) Tryz.func169 rfl (by kernel_rfl) (by kernel_rfl) ?_
  intro args env nxt h
  unfold vsum2S at h ⊢
  split at h
  · rename_i b c
    split at h
    · rename_i f g ty0 m0
      split at h
      · rename_i hc
        obtain ⟨hf, hg, e0⟩ := id hc
        refine ⟨_, _, _, W (sval f + sval g), laid1 [.slice 0 0 2 c] rfl (by simp) m0 rfl, by first | exact if_pos hc | (simp only [m0]; exact if_pos hc) | (simp [m0]; exact hc), by simp, by simp, ?_⟩
        have w1 : InW (sval f) := sval_range hf
        have w2 := sval_limb w1
        have w3 := sval_limb e0
        simp [Tryz.f169, hf, hg, e0, R8_limb, fitV, R8_zero, sval_zero, w1, w2]
      · simp at h
    · simp at h
  · simp at h

noncomputable def vmove1S : Sum := fun args env _ => match args with
  | [.int .i64 x, .int .i64 y, .ptr p 0] => match env p with
    | some ⟨[.int .i64 t], _⟩ => open Classical in if InI x ∧ InI y ∧ InI t then .val (.int .i64 (clampI ((x * 4294967296 + y * t) / 4294967296))) [] [] else .fail
    | _ => .fail
  | _ => .fail
theorem vmove1_ok : SumOk Tryz.prog 167 vmove1S := by
  refine sum_read (L := fun _ => none) (n := 1) (S := stOf [(168, pureS vrawS), (122, pureS shlS), (170, pureS vtimesS), (169, vsum2S), (64, pureS finS)]) drawS Tryz.T_ok (stOf_ok (by simp [vraw_ok, shl_ok, vtimes_ok, vsum2_ok, fin_ok])) Tryz.func167 rfl (by kernel_rfl) (by kernel_rfl) ?_
  intro args env nxt h
  unfold vmove1S at h ⊢
  split at h
  · rename_i x y p
    split at h
    · rename_i t ty0 m0
      split at h
      · rename_i hc
        obtain ⟨hx, hy, ht⟩ := id hc
        refine ⟨_, _, _, .int .i64 (clampI ((x * 4294967296 + y * t) / 4294967296)), laid1 [.int .i64 x, .int .i64 y, .ptr 0 0] rfl (by simp) m0 rfl, by first | exact if_pos hc | (simp only [m0]; exact if_pos hc) | (simp [m0]; exact hc), by simp, by simp, ?_⟩
        have s1 : Bd 95 (x * 4294967296) := by simpa using (Bd.of hx).shl 32
        have s2 := s1.w (by decide)
        have s3 : Bd 127 (x * 4294967296 + y * t) := (s1.mono (by decide)).add ((Bd.of hy).mul (Bd.of ht))
        have s4 := s3.w (by decide)
        have s5 := ((Bd.of hy).mul (Bd.of ht)).w (by decide)
        simp [Tryz.f167, hx, hy, ht, R8_limb, shlV, fitV, s2, sval_limb s2, s4, sval_limb s4, sval_limb s5, sval_limb (InI.w hx), vsum2S]
      · simp at h
    · simp at h
  · simp at h

noncomputable def veachMS : Sum := fun args env _ => match args with
  | [.agg [.int .i64 u, .int .i64 v, .int .i64 w], .agg [.int .i64 x, .int .i64 y, .int .i64 z], .fn 167 [.ptr p 0]] => match env p with
    | some ⟨[.int .i64 t], _⟩ => open Classical in if InI u ∧ InI v ∧ InI w ∧ InI x ∧ InI y ∧ InI z ∧ InI t then .val (.agg [.int .i64 (clampI ((u * 4294967296 + x * t) / 4294967296)), .int .i64 (clampI ((v * 4294967296 + y * t) / 4294967296)), .int .i64 (clampI ((w * 4294967296 + z * t) / 4294967296))]) [] [] else .fail
    | _ => .fail
  | _ => .fail
theorem veachM_ok : SumOk Tryz.prog 69 veachMS := by
  refine sum_read (L := fun i => if i = 1 then some (.quiet 19) else none) (n := 1) (S := stOf [(167, vmove1S)]) drawS Tryz.T_ok (stOf_ok (by simp [vmove1_ok])) Tryz.func69 rfl (by kernel_rfl) (by kernel_rfl) ?_
  intro args env nxt h
  unfold veachMS at h ⊢
  split at h
  · rename_i u v w x y z p
    split at h
    · rename_i t ty0 m0
      split at h
      · rename_i hc
        obtain ⟨hu, hv, hw, hx, hy, hz, ht⟩ := id hc
        refine ⟨_, _, _, .agg [.int .i64 (clampI ((u * 4294967296 + x * t) / 4294967296)), .int .i64 (clampI ((v * 4294967296 + y * t) / 4294967296)), .int .i64 (clampI ((w * 4294967296 + z * t) / 4294967296))], laid1 [.agg [.int .i64 u, .int .i64 v, .int .i64 w], .agg [.int .i64 x, .int .i64 y, .int .i64 z], .fn 167 [.ptr 0 0]] rfl (by simp) m0 rfl, by first | exact if_pos hc | (simp only [m0]; exact if_pos hc) | (simp [m0]; exact hc), by simp, by simp, ?_⟩
        simp [Tryz.f69, hu, hv, hw, hx, hy, hz, ht, vmove1S]
      · simp at h
    · simp at h
  · simp at h

noncomputable def vMoveS : List AV → PR
  | [.agg [.int .i64 a, .int .i64 b, .int .i64 c], .agg [.int .i64 d, .int .i64 e, .int .i64 f], .int .i64 t] => open Classical in if InI a ∧ InI b ∧ InI c ∧ InI d ∧ InI e ∧ InI f ∧ InI t then .val (.agg [.int .i64 (clampI ((a * 4294967296 + d * t) / 4294967296)), .int .i64 (clampI ((b * 4294967296 + e * t) / 4294967296)), .int .i64 (clampI ((c * 4294967296 + f * t) / 4294967296))]) else .fail
  | _ => .fail
@[simp] theorem vMoveS_val {a b c d e f t : Int} (h : InI a ∧ InI b ∧ InI c ∧ InI d ∧ InI e ∧ InI f ∧ InI t) : vMoveS [.agg [.int .i64 a, .int .i64 b, .int .i64 c], .agg [.int .i64 d, .int .i64 e, .int .i64 f], .int .i64 t] = .val (.agg [.int .i64 (clampI ((a * 4294967296 + d * t) / 4294967296)), .int .i64 (clampI ((b * 4294967296 + e * t) / 4294967296)), .int .i64 (clampI ((c * 4294967296 + f * t) / 4294967296))]) := if_pos h
theorem vMove_ok : SumOk Tryz.prog 95 (pureS vMoveS) := by
  refine sum_fn (L := fun _ => none) (n := 1) (S := stOf [(69, veachMS)]) drawS Tryz.T_ok (stOf_ok (by simp [veachM_ok])) Tryz.func95 rfl (by kernel_rfl) (by kernel_rfl) ?_
    (by intro args v h; unfold vMoveS at h; split at h <;> (try split at h) <;> simp at h)
  intro args v h
  unfold vMoveS at h
  split at h
  · rename_i a b c d e f t
    split at h
    · rename_i hc
      obtain ⟨ha, hb, hc, hd, he, hf, ht⟩ := hc
      cases h
      refine ⟨by simp, by simp, by simp, ?_⟩
      simp [Tryz.f95, ha, hb, hc, hd, he, hf, ht, veachMS]
    · simp at h
  · simp at h

noncomputable def r3furtherS : List AV → PR
  | [.int .i64 x, .int .i64 y, .int .i64 t] => open Classical in if InI x ∧ InI y ∧ InI t then .val (.int .i64 (clampI ((x * 4294967296 + y * t) / 4294967296))) else .fail
  | _ => .fail
@[simp] theorem r3furtherS_val {x y t : Int} (h : InI x ∧ InI y ∧ InI t) : r3furtherS [.int .i64 x, .int .i64 y, .int .i64 t] = .val (.int .i64 (clampI ((x * 4294967296 + y * t) / 4294967296))) := if_pos h
theorem r3further_ok : SumOk Tryz.prog 177 (pureS r3furtherS) := by
  refine sum_fn (L := fun _ => none) (n := 1) (S := stOf [(199, pureS r2inS), (162, pureS r3plusS), (192, pureS r3rawS), (161, pureS r3timesS), (194, pureS r3twiceS)]) drawS Tryz.T_ok (stOf_ok (by simp [r2in_ok, r3plus_ok, r3raw_ok, r3times_ok, r3twice_ok])) Tryz.func177 rfl (by kernel_rfl) (by kernel_rfl) ?_
    (by intro args v h; unfold r3furtherS at h; split at h <;> (try split at h) <;> simp at h)
  intro args v h
  unfold r3furtherS at h
  split at h
  · rename_i x y t
    split at h
    · rename_i hc
      obtain ⟨hx, hy, ht⟩ := hc
      cases h
      refine ⟨by simp, by simp, by simp, ?_⟩
      have s1 : Bd 95 (x * 4294967296) := by simpa using (Bd.of hx).shl 32
      have s2 := s1.w (by decide)
      have s3 : Bd 127 (x * 4294967296 + y * t) := (s1.mono (by decide)).add ((Bd.of hy).mul (Bd.of ht))
      have s4 := s3.w (by decide)
      have s5 := ((Bd.of hy).mul (Bd.of ht)).w (by decide)
      simp [Tryz.f177, hx, hy, ht, fitI hx, fitI hy, fitI ht, R8_limb, s2, sval_limb s2, s4, sval_limb s4, s5, sval_limb s5]
    · simp at h
  · simp at h

noncomputable def r3MoveS : List AV → PR
  | [.agg [.int .i64 a, .int .i64 b, .int .i64 c], .agg [.int .i64 d, .int .i64 e, .int .i64 f], .int .i64 t] => open Classical in if InI a ∧ InI b ∧ InI c ∧ InI d ∧ InI e ∧ InI f ∧ InI t then .val (.agg [.int .i64 (clampI ((a * 4294967296 + d * t) / 4294967296)), .int .i64 (clampI ((b * 4294967296 + e * t) / 4294967296)), .int .i64 (clampI ((c * 4294967296 + f * t) / 4294967296))]) else .fail
  | _ => .fail
@[simp] theorem r3MoveS_val {a b c d e f t : Int} (h : InI a ∧ InI b ∧ InI c ∧ InI d ∧ InI e ∧ InI f ∧ InI t) : r3MoveS [.agg [.int .i64 a, .int .i64 b, .int .i64 c], .agg [.int .i64 d, .int .i64 e, .int .i64 f], .int .i64 t] = .val (.agg [.int .i64 (clampI ((a * 4294967296 + d * t) / 4294967296)), .int .i64 (clampI ((b * 4294967296 + e * t) / 4294967296)), .int .i64 (clampI ((c * 4294967296 + f * t) / 4294967296))]) := if_pos h
theorem r3Move_ok : SumOk Tryz.prog 99 (pureS r3MoveS) := by
  refine sum_fn (L := fun i => if i = 1 then some (.quiet 19) else none) (n := 1) (S := stOf [(177, pureS r3furtherS)]) drawS Tryz.T_ok (stOf_ok (by simp [r3further_ok])) Tryz.func99 rfl (by kernel_rfl) (by kernel_rfl) ?_
    (by intro args v h; unfold r3MoveS at h; split at h <;> (try split at h) <;> simp at h)
  intro args v h
  unfold r3MoveS at h
  split at h
  · rename_i a b c d e f t
    split at h
    · rename_i hc
      obtain ⟨ha, hb, hc, hd, he, hf, ht⟩ := hc
      cases h
      refine ⟨by simp, by simp, by simp, ?_⟩
      simp [Tryz.f99, ha, hb, hc, hd, he, hf, ht]
    · simp at h
  · simp at h

end Go.X
