/- Poses: where points are in them. -/
import Derived.Test.YtgejbdalmjopiaaJT4
import Derived.Test.YtgejbdalmjopiaaGF
namespace Go.X
open Go.Proofs
attribute [local irreducible] Good
/-- the greatest, the least of three, as they are told -/
def max3 (a b c : Int) : Int := if (if a < b then b else a) < c then c else if a < b then b else a
def min3 (a b c : Int) : Int := if c < (if b < a then b else a) then c else if b < a then b else a
theorem max3_is {a b c : Int} : (if (if a < b then b else a) < c then c else if a < b then b else a) = max3 a b c := rfl
theorem min3_is {a b c : Int} : (if c < (if b < a then b else a) then c else if b < a then b else a) = min3 a b c := rfl
/-- a place that may be -/
def Place (a b c : Int) : Prop := (-4398046511104 ≤ a ∧ a ≤ 4398046511104) ∧ (-4398046511104 ≤ b ∧ b ≤ 4398046511104) ∧ (-4398046511104 ≤ c ∧ c ≤ 4398046511104)
instance (a b c : Int) : Decidable (Place a b c) := inferInstanceAs (Decidable (_ ∧ _))
/-- a point that may be asked -/
def Size3 (a b c : Int) : Prop := (-274877906944 ≤ a ∧ a ≤ 274877906944) ∧ (-274877906944 ≤ b ∧ b ≤ 274877906944) ∧ (-274877906944 ≤ c ∧ c ≤ 274877906944)
theorem size_iff {a b c : Int} : Size3 a b c ↔ ¬ (274877906944 < max3 a b c) ∧ ¬ (min3 a b c < -274877906944) := by
  unfold Size3 max3 min3
  constructor
  · intro h; constructor <;> (repeat' split) <;> omega
  · rintro ⟨h1, h2⟩
    revert h1 h2
    (repeat' split) <;> omega
/-- one new block that names none, handed back -/
theorem told_one {θ : List Nat} {m0 m' : List Blk} {nxt q : Nat} {v v' : AV} {blk : Blk} (h1 : θ.length ≤ q) (h2 : m'[q]? = some blk) (h3 : ∀ i, i < θ.length → m'[i]? = m0[i]?) (hb : refsL blk.items = [])
    (hv : v.ren (glob θ nxt [q]) = v') (hr : ∀ b ∈ refs v, b = q) (hu : v ≠ .undef) (h6 : ∀ i, i < θ.length → refsL (m0.getD i default).items = [] := by simp) :
    Told θ m0 m' nxt [q] none v (.val v' [] [blk]) := by
  have h4 : q < m'.length := by
    rcases Nat.lt_or_ge q m'.length with h | h
    · exact h
    · rw [List.getElem?_eq_none h] at h2; simp at h2
  have h5 : m'.getD q default = blk := by rw [List.getD_eq_getElem?_getD, h2]; rfl
  refine ⟨?_, by simp, by simp; omega, by omega, fun i hi _ => h3 i hi, by simp, fun b h => .inr (by simp [hr b h]), ?_, hu⟩
  · simp only [List.map_cons, List.map_nil, h5]
    rw [hv]
    simp only [upOf, glB]
    rw [renL_noref _ _ hb]
  · intro p hp b hb'
    rcases hp with hp | hp
    · have e : m'.getD p default = m0.getD p default := by rw [List.getD_eq_getElem?_getD, h3 p hp, ← List.getD_eq_getElem?_getD]
      rw [e, h6 p hp] at hb'
      simp at hb'
    · simp at hp
      subst hp
      rw [h5, hb] at hb'
      simp at hb'
theorem told_none {θ : List Nat} {m0 m' : List Blk} {nxt : Nat} {v : AV} (hl : θ.length ≤ m'.length) (h3 : ∀ i, i < θ.length → m'[i]? = m0[i]?) (hr : refs v = []) (hu : v ≠ .undef) (h6 : ∀ i, i < θ.length → refsL (m0.getD i default).items = [] := by simp) :
    Told θ m0 m' nxt [] none v (.val v [] []) := by
  refine ⟨by simp [upOf, ren_noref _ _ hr], by simp, by simp, hl, fun i h _ => h3 i h, by simp, by simp [hr], ?_, hu⟩
  intro p hp b hb'
  rcases hp with hp | hp
  · have e : m'.getD p default = m0.getD p default := by rw [List.getD_eq_getElem?_getD, h3 p hp, ← List.getD_eq_getElem?_getD]
    rw [e, h6 p hp] at hb'
    simp at hb'
  · simp at hp

end Go.X
