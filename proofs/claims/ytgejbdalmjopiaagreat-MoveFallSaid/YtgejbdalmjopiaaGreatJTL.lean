/- Bodies: what may be stays so. Plain: no program in sight. -/
import Derived.Test.YtgejbdalmjopiaaGreatJTB
import Derived.Test.YtgejbdalmjopiaaGreatJTE
import Derived.Test.YtgejbdalmjopiaaGreatJTK
namespace Go.X
open Go.Proofs
attribute [local irreducible] Good
theorem BoEq_same {ident kd r x y z p1 p2 p3 q0 q1 q2 q3 M vx vy vz wx wy wz rub : Int} {n : Nat} {f : Nat → Int} : BoEq ident kd r x y z p1 p2 p3 q0 q1 q2 q3 M vx vy vz wx wy wz rub ident kd r x y z p1 p2 p3 q0 q1 q2 q3 M vx vy vz wx wy wz rub n n f f = True := eq_true ⟨rfl, ⟨rfl, rfl, ⟨rfl, rfl, rfl⟩, rfl, fun _ _ => rfl⟩, ⟨rfl, rfl, rfl, rfl, rfl, rfl, rfl⟩, rfl, ⟨rfl, rfl, rfl⟩, ⟨rfl, rfl, rfl⟩, rfl⟩
theorem BoEq_cut {ident kd r x y z p1 p2 p3 q0 q1 q2 q3 M vx vy vz wx wy wz rub : Int} {n : Nat} {f : Nat → Int} : BoEq ident kd r x y z p1 p2 p3 q0 q1 q2 q3 M vx vy vz wx wy wz rub ident kd r x y z p1 p2 p3 q0 q1 q2 q3 M vx vy vz wx wy wz rub n n (cutL (n * 3) f) f = True := eq_true ⟨rfl, ⟨rfl, rfl, ⟨rfl, rfl, rfl⟩, rfl, fun _ hj => cut_at hj⟩, ⟨rfl, rfl, rfl, rfl, rfl, rfl, rfl⟩, rfl, ⟨rfl, rfl, rfl⟩, ⟨rfl, rfl, rfl⟩, rfl⟩
theorem cut_cut {n : Nat} {f : Nat → Int} : cutL n (cutL n f) = cutL n f := by
  funext j; unfold cutL; by_cases h : j < n <;> simp [h]
theorem bo_cut {ident kd r x y z p1 p2 p3 q0 q1 q2 q3 M vx vy vz wx wy wz rub : Int} {n : Nat} {f : Nat → Int} : boI ident kd r x y z n (cutL (n * 3) f) p1 p2 p3 q0 q1 q2 q3 M vx vy vz wx wy wz rub = boI ident kd r x y z n f p1 p2 p3 q0 q1 q2 q3 M vx vy vz wx wy wz rub := by
  have e : ckI kd r x y z n (cutL (n * 3) f) = ckI kd r x y z n f := ck_congr fun j hj => cut_at hj
  unfold boI thI
  rw [e]
theorem sh_cut {kd r x y z : Int} {n : Nat} {f : Nat → Int} (h : ShP kd r x y z n f) : ShP kd r x y z n (cutL (n * 3) f) = True := eq_true (ShP_congr (fun _ hj => (cut_at hj).symm) h)
theorem spI_sp {a : Int} : spI (spI a) = spI a := spI_self spI_in
theorem bo_of {ident kd r x y z p1 p2 p3 q0 q1 q2 q3 M vx vy vz wx wy wz rub : Int} {n : Nat} {f : Nat → Int} (h1 : 1 ≤ ident ∧ ident ≤ 4096) (h2 : thI kd r x y z n f p1 p2 p3 q0 q1 q2 q3 = 0) (h3 : FineP M vx vy vz wx wy wz ∧ 0 ≤ rub ∧ rub ≤ 17179869184) : boI ident kd r x y z n f p1 p2 p3 q0 q1 q2 q3 M vx vy vz wx wy wz rub = 0 := by
  unfold boI
  rw [if_neg (by omega), if_pos h2, if_pos h3]
theorem th_of {kd r x y z p1 p2 p3 q0 q1 q2 q3 : Int} {n : Nat} {f : Nat → Int} (h1 : Place p1 p2 p3) (h2 : TurnP q0 q1 q2 q3) (h3 : ckI kd r x y z n f = 0) : thI kd r x y z n f p1 p2 p3 q0 q1 q2 q3 = 0 := by
  unfold thI
  rw [if_pos h1, if_pos h2, h3]
theorem fine_of {M vx vy vz wx wy wz a b c d e f : Int} (m0 : ¬ M = 0) (h : FineP M vx vy vz wx wy wz) (h1 : spI a = a ∧ spI b = b ∧ spI c = c) (h2 : spI d = d ∧ spI e = e ∧ spI f = f) : FineP M a b c d e f := by
  unfold FineP at h ⊢
  rw [if_neg m0] at h ⊢
  exact ⟨h.1, h1, h2⟩
theorem fine_sp {M vx vy vz wx wy wz : Int} (h : FineP M vx vy vz wx wy wz) : (spI vx = vx ∧ spI vy = vy ∧ spI vz = vz) ∧ (spI wx = wx ∧ spI wy = wy ∧ spI wz = wz) := by
  unfold FineP at h
  split at h
  · obtain ⟨⟨rfl, rfl, rfl⟩, rfl, rfl, rfl⟩ := h
    exact ⟨⟨spI_0, spI_0, spI_0⟩, spI_0, spI_0, spI_0⟩
  · exact h.2
theorem fine_0 {vx vy vz wx wy wz : Int} (h : FineP 0 vx vy vz wx wy wz) : (vx = 0 ∧ vy = 0 ∧ vz = 0) ∧ (wx = 0 ∧ wy = 0 ∧ wz = 0) := by
  unfold FineP at h
  rw [if_pos rfl] at h
  exact h
end Go.X
