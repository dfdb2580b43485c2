/- Loops with a bound that is no literal: an invariant; slots that are junk. Plain: no program in sight. -/
import Derived.Test.YticlgpdmelhbhaaXP
namespace Go.X

theorem Good.mono {Q Q' : Ex → St → Prop} (hq : ∀ x s, Q x s → Q' x s) : ∀ {o : Out}, Good o Q → Good o Q'
  | .fin x s, h => hq x s h
  | .any _, h => fun n => Good.mono hq (h n)
  | .fail, h => h

theorem good_bind {Q : Ex → St → Prop} {f : St → Out} : ∀ {o : Out}, Good (o.bind f) Q ↔ Good o (Ex.seq (fun s => Good (f s) Q) Q)
  | .fin x s => by cases x <;> exact Iff.rfl
  | .any k => ⟨fun h n => good_bind.1 (h n), fun h n => good_bind.2 (h n)⟩
  | .fail => Iff.rfl

def unQ (id : Nat) (Q : Ex → St → Prop) (x : Ex) (s : St) : Prop :=
  match x with
  | .exit i => if i = id then Q .norm s else Q (.exit i) s
  | x => Q x s
theorem good_unblock {Q : Ex → St → Prop} {id : Nat} : ∀ {o : Out}, Good (X.unblock id o) Q ↔ Good o (unQ id Q)
  | .fin x s => by
    cases x with
    | exit i =>
      simp only [X.unblock]
      show Good (if i = id then _ else _) Q ↔ (if i = id then Q .norm s else Q (.exit i) s)
      by_cases h : i = id
      · rw [if_pos h, if_pos h]; exact Iff.rfl
      · rw [if_neg h, if_neg h]; exact Iff.rfl
    | norm => exact Iff.rfl
    | ret => exact Iff.rfl
    | pan v => exact Iff.rfl
  | .any k => ⟨fun h n => good_unblock.1 (h n), fun h n => good_unblock.2 (h n)⟩
  | .fail => Iff.rfl
@[simp] theorem unQ_norm {id : Nat} {Q : Ex → St → Prop} {s : St} : unQ id Q .norm s ↔ Q .norm s := Iff.rfl
@[simp] theorem unQ_ret {id : Nat} {Q : Ex → St → Prop} {s : St} : unQ id Q .ret s ↔ Q .ret s := Iff.rfl
@[simp] theorem unQ_pan {id : Nat} {Q : Ex → St → Prop} {s : St} {v : AV} : unQ id Q (.pan v) s ↔ Q (.pan v) s := Iff.rfl
@[simp] theorem unQ_exit {id i : Nat} {Q : Ex → St → Prop} {s : St} : unQ id Q (.exit i) s ↔ if i = id then Q .norm s else Q (.exit i) s := Iff.rfl

/-- a loop: 'I k s': at most k rounds are left -/
theorem loop_rule {f : St → Out} {Q : Ex → St → Prop} (I : Nat → St → Prop) (h : ∀ k s, I k s → Good (f s) (Ex.seq (fun s' => ∃ k', k' < k ∧ I k' s') Q)) : ∀ (n k : Nat) (s : St), k < n → I k s → Good (loopA f n s) Q
  | 0, k, s, hk, _ => by omega
  | n + 1, k, s, hk, hi => by
    simp only [loopA]
    rw [good_bind]
    refine (h k s hi).mono fun x s' hx => ?_
    cases x with
    | norm => obtain ⟨k', h1, h2⟩ := hx; exact loop_rule I h n k' s' (by omega) h2
    | _ => exact hx

/-- slots of which some hold this, some whatever -/
def fillP (l : Nat → AV) : Nat → List (Option AV) → List AV
  | _, [] => []
  | i, none :: p => l i :: fillP l (i + 1) p
  | i, some v :: p => v :: fillP l (i + 1) p
def Fits : List (Option AV) → List AV → Prop
  | [], ts => ts = []
  | none :: p, ts => match ts with | [] => False | _ :: ts => Fits p ts
  | some v :: p, ts => match ts with | [] => False | u :: ts => u = v ∧ Fits p ts
theorem fillP_congr {l l' : Nat → AV} : ∀ (p : List (Option AV)) (i : Nat), (∀ j, i ≤ j → l j = l' j) → fillP l i p = fillP l' i p
  | [], _, _ => rfl
  | none :: p, i, h => by simp only [fillP]; rw [h i (Nat.le_refl _), fillP_congr p (i + 1) fun j hj => h j (by omega)]
  | some v :: p, i, h => by simp only [fillP]; rw [fillP_congr p (i + 1) fun j hj => h j (by omega)]
theorem fits_of : ∀ {p : List (Option AV)} {ts : List AV}, Fits p ts → ∀ i, ∃ l, ts = fillP l i p
  | [], ts, h, i => ⟨fun _ => .undef, h⟩
  | none :: p, [], h, i => h.elim
  | some v :: p, [], h, i => h.elim
  | none :: p, u :: ts, h, i => by
    obtain ⟨l, hl⟩ := fits_of (p := p) (ts := ts) h (i + 1)
    refine ⟨fun j => if j = i then u else l j, ?_⟩
    simp only [fillP, if_true]
    rw [hl]
    congr 1
    exact fillP_congr p (i + 1) fun j hj => by rw [if_neg (by omega)]
  | some v :: p, u :: ts, h, i => by
    obtain ⟨rfl, h⟩ := h
    obtain ⟨l, hl⟩ := fits_of (p := p) (ts := ts) h (i + 1)
    exact ⟨l, by simp only [fillP]; rw [hl]⟩
@[simp] theorem fits_nil : Fits [] [] ↔ True := by simp [Fits]
@[simp] theorem fits_none {p : List (Option AV)} {u : AV} {ts : List AV} : Fits (none :: p) (u :: ts) ↔ Fits p ts := Iff.rfl
@[simp] theorem fits_some {p : List (Option AV)} {u v : AV} {ts : List AV} : Fits (some v :: p) (u :: ts) ↔ u = v ∧ Fits p ts := Iff.rfl
@[simp] theorem fillP_nil {l : Nat → AV} {i : Nat} : fillP l i [] = [] := rfl
@[simp] theorem fillP_none {l : Nat → AV} {i : Nat} {p : List (Option AV)} : fillP l i (none :: p) = l i :: fillP l (i + 1) p := rfl
@[simp] theorem fillP_some {l : Nat → AV} {i : Nat} {v : AV} {p : List (Option AV)} : fillP l i (some v :: p) = v :: fillP l (i + 1) p := rfl

end Go.X
