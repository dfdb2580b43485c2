/- Package mat: the product. -/
import Derived.Test.YtfhooccdhmkaoaaJMC
import Derived.Test.YtfhooccdhmkaoaaGY
namespace Go.X
open Go.Proofs
attribute [local irreducible] Good

def columnsS : Sum := fun args _ nxt => match args with
  | [.agg [.int .i64 a1, .int .i64 a2, .int .i64 a3, .int .i64 b1, .int .i64 b2, .int .i64 b3, .int .i64 c1, .int .i64 c2, .int .i64 c3]] =>
    .val (.fn 107 [.ptr nxt 0]) [] [⟨[.int .i64 a1, .int .i64 a2, .int .i64 a3, .int .i64 b1, .int .i64 b2, .int .i64 b3, .int .i64 c1, .int .i64 c2, .int .i64 c3], 27⟩]
  | _ => .fail
theorem columns_ok : SumOk Try.prog 52 columnsS := by
  refine sum_mem (L := fun _ => none) (n := 1) (S := stOf []) drawS Try.T_ok (stOf_ok (by simp)) Try.func52 rfl (by kernel_rfl) (by kernel_rfl) ?_
  intro args env nxt h
  unfold columnsS at h ⊢
  split at h
  · rename_i a1 a2 a3 b1 b2 b3 c1 c2 c3
    refine ⟨[.agg [.int .i64 a1, .int .i64 a2, .int .i64 a3, .int .i64 b1, .int .i64 b2, .int .i64 b3, .int .i64 c1, .int .i64 c2, .int .i64 c3]], [], [], ⟨rfl, rfl, by simp, by simp, by simp, by simp⟩, ?_⟩
    simp [Try.f52]
    exact ⟨[0], none, ⟨by simp [upOf, glB, glob, AV.ren, renL], by simp, by simp, by simp, by simp, by simp, by simp, by simp, by simp⟩⟩
  · simp at h

def columnsI : It := fun cap env => match cap with
  | [.ptr p 0] => match env p with
    | some ⟨[.int .i64 a1, .int .i64 a2, .int .i64 a3, .int .i64 b1, .int .i64 b2, .int .i64 b3, .int .i64 c1, .int .i64 c2, .int .i64 c3], _⟩ =>
      some [[.int .i64 0, .agg [.int .i64 a1, .int .i64 b1, .int .i64 c1]], [.int .i64 1, .agg [.int .i64 a2, .int .i64 b2, .int .i64 c2]], [.int .i64 2, .agg [.int .i64 a3, .int .i64 b3, .int .i64 c3]]]
    | _ => none
  | _ => none
set_option maxRecDepth 20000 in
set_option maxHeartbeats 2000000 in
theorem columns1_ok : IterOk Try.prog 107 columnsI := by
  refine sum_iter (n := 4) (S := stOf [(21, pureS mturnedS)]) Try.T_ok (stOf_ok (by simp [mturned_ok])) Try.func107 rfl (by kernel_rfl) (by kernel_rfl) ?_
  intro cap env ys h
  unfold columnsI at h
  split at h
  · rename_i p
    split at h
    · rename_i a1 a2 a3 b1 b2 b3 c1 c2 c3 t henv
      cases h
      refine ⟨by simp, [.ptr 0 0], [p], [⟨[.int .i64 a1, .int .i64 a2, .int .i64 a3, .int .i64 b1, .int .i64 b2, .int .i64 b3, .int .i64 c1, .int .i64 c2, .int .i64 c3], t⟩], ⟨by simp [renL, AV.ren], rfl, by simp, by simp, by simp [henv, renL, AV.ren], by simp⟩, ?_⟩
      simp [Try.f107]
    · simp at h
  · simp at h

noncomputable def mMulS : List AV → PR
  | [.agg [.int .i64 a1, .int .i64 a2, .int .i64 a3, .int .i64 b1, .int .i64 b2, .int .i64 b3, .int .i64 c1, .int .i64 c2, .int .i64 c3], .agg [.int .i64 x1, .int .i64 x2, .int .i64 x3, .int .i64 y1, .int .i64 y2, .int .i64 y3, .int .i64 z1, .int .i64 z2, .int .i64 z3]] =>
    open Classical in if InI a1 ∧ InI a2 ∧ InI a3 ∧ InI b1 ∧ InI b2 ∧ InI b3 ∧ InI c1 ∧ InI c2 ∧ InI c3 ∧ InI x1 ∧ InI x2 ∧ InI x3 ∧ InI y1 ∧ InI y2 ∧ InI y3 ∧ InI z1 ∧ InI z2 ∧ InI z3 then
      .val (.agg [.int .i64 (clampI ((a1 * x1 + a2 * y1 + a3 * z1) / 2 ^ 32)), .int .i64 (clampI ((a1 * x2 + a2 * y2 + a3 * z2) / 2 ^ 32)), .int .i64 (clampI ((a1 * x3 + a2 * y3 + a3 * z3) / 2 ^ 32)),
        .int .i64 (clampI ((b1 * x1 + b2 * y1 + b3 * z1) / 2 ^ 32)), .int .i64 (clampI ((b1 * x2 + b2 * y2 + b3 * z2) / 2 ^ 32)), .int .i64 (clampI ((b1 * x3 + b2 * y3 + b3 * z3) / 2 ^ 32)),
        .int .i64 (clampI ((c1 * x1 + c2 * y1 + c3 * z1) / 2 ^ 32)), .int .i64 (clampI ((c1 * x2 + c2 * y2 + c3 * z2) / 2 ^ 32)), .int .i64 (clampI ((c1 * x3 + c2 * y3 + c3 * z3) / 2 ^ 32))]) else .fail
  | _ => .fail
@[simp] theorem mMulS_val {a1 a2 a3 b1 b2 b3 c1 c2 c3 x1 x2 x3 y1 y2 y3 z1 z2 z3 : Int} (h : InI a1 ∧ InI a2 ∧ InI a3 ∧ InI b1 ∧ InI b2 ∧ InI b3 ∧ InI c1 ∧ InI c2 ∧ InI c3 ∧ InI x1 ∧ InI x2 ∧ InI x3 ∧ InI y1 ∧ InI y2 ∧ InI y3 ∧ InI z1 ∧ InI z2 ∧ InI z3) :
    mMulS [.agg [.int .i64 a1, .int .i64 a2, .int .i64 a3, .int .i64 b1, .int .i64 b2, .int .i64 b3, .int .i64 c1, .int .i64 c2, .int .i64 c3], .agg [.int .i64 x1, .int .i64 x2, .int .i64 x3, .int .i64 y1, .int .i64 y2, .int .i64 y3, .int .i64 z1, .int .i64 z2, .int .i64 z3]] =
      .val (.agg [.int .i64 (clampI ((a1 * x1 + a2 * y1 + a3 * z1) / 2 ^ 32)), .int .i64 (clampI ((a1 * x2 + a2 * y2 + a3 * z2) / 2 ^ 32)), .int .i64 (clampI ((a1 * x3 + a2 * y3 + a3 * z3) / 2 ^ 32)),
        .int .i64 (clampI ((b1 * x1 + b2 * y1 + b3 * z1) / 2 ^ 32)), .int .i64 (clampI ((b1 * x2 + b2 * y2 + b3 * z2) / 2 ^ 32)), .int .i64 (clampI ((b1 * x3 + b2 * y3 + b3 * z3) / 2 ^ 32)),
        .int .i64 (clampI ((c1 * x1 + c2 * y1 + c3 * z1) / 2 ^ 32)), .int .i64 (clampI ((c1 * x2 + c2 * y2 + c3 * z2) / 2 ^ 32)), .int .i64 (clampI ((c1 * x3 + c2 * y3 + c3 * z3) / 2 ^ 32))]) := if_pos h
set_option maxHeartbeats 4000000 in
theorem mMul_ok : SumOk Try.prog 17 (pureS mMulS) := by
  refine sum_range (L := fun _ => none) (n := 1) (S := stOf [(52, columnsS), (15, pureS mapplyS), (21, pureS mturnedS)]) (I := itOf [(107, columnsI)]) drawS Try.T_ok (stOf_ok (by simp [columns_ok, mapply_ok, mturned_ok]))
    (itOf_ok (by simp [columns1_ok])) Try.func17 rfl (by kernel_rfl) (by kernel_rfl) (by kernel_rfl) (by kernel_rfl) (by kernel_rfl) (by kernel_rfl) (by kernel_rfl)
    (by intro args v h; unfold mMulS at h; split at h <;> (try split at h) <;> simp at h) ?_
  intro args v h
  unfold mMulS at h
  split at h
  · rename_i a1 a2 a3 b1 b2 b3 c1 c2 c3 x1 x2 x3 y1 y2 y3 z1 z2 z3
    split at h
    · rename_i hc
      obtain ⟨ha1, ha2, ha3, hb1, hb2, hb3, hc1, hc2, hc3, hx1, hx2, hx3, hy1, hy2, hy3, hz1, hz2, hz3⟩ := hc
      cases h
      refine ⟨by simp, by simp, by simp, ?_⟩
      simp [Try.f17, columnsS, columnsI, ha1, ha2, ha3, hb1, hb2, hb3, hc1, hc2, hc3, hx1, hx2, hx3, hy1, hy2, hy3, hz1, hz2, hz3]
    · simp at h
  · simp at h

end Go.X
