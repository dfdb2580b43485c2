/- Sizes of 64 bits, by the library's contract; ifs in what was reckoned. -/
import Derived.Test.YticlgpdmelhbhaaW4
import Derived.Shelf.Strconv.Itoa0
import Derived.Shelf.Bits.Mul64
namespace Go.X
open Go.Proofs

/-- by a contract -/
theorem sum_calls {P : Program} {f : FuncId} {fn : Func} (hf : P.funcs[f]? = some fn) (hn : (fn.name == "runtime.NumGoroutine") = false) (hb : fn.body.isSome = true) {g : List AV → PR}
    (hv : ∀ args v, g args = .val v → okv v = true ∧ refs v = [] ∧ ∀ (ρ : Nat → Nat) (w : World), Calls P f (args.map (conc ρ)).toArray w fun e w' => e = .returned (conc ρ v) ∧ w' = w)
    (hp : ∀ args v, g args ≠ .pan v) : SumOk P f (pureS g) := by
  intro args D ρ0 w0 ρ mem nxt w hnf hso hrf hfr hi
  refine .inr ⟨callFunc_enter hf hn hb _, ?_⟩
  unfold pureS at hnf ⊢
  cases hg : g args with
  | fail => rw [hg] at hnf; exact absurd rfl hnf
  | pan v => exact absurd hg (hp args v)
  | val v =>
    obtain ⟨h1, h2, h3⟩ := hv args v hg
    refine (h3 ρ w).mono fun e w' he => ?_
    obtain ⟨rfl, rfl⟩ := he
    refine ⟨ρ, conc ρ v, rfl, .inr ⟨rfl, h1, by rw [h2]; simp⟩, ?_, ?_, ?_⟩
    · rintro rfl; simp [okv, solid] at h1
    · rw [memNew_nil, memUp_nil]; exact hi
    · rw [memNew_nil, memUp_nil]; exact Later.refl _ _

def rLen : Shelf.Ren := ⟨fun _ => 67, fun t => if t = 3 then 3 else if t = 4 then 4 else if t = 5 then 5 else if t = 9 then 9 else if t = 46 then 68 else 22, fun x => x⟩
theorem laysLen : Lays.n129 Try.prog rLen where
  mixed := mixed
  f129 := by kernel_rfl
  t3 := by kernel_rfl
  a3 := fun _ => by kernel_rfl
  z3 := fun _ => by kernel_rfl
  v3 := fun _ => by kernel_rfl
  t4 := by kernel_rfl
  a4 := fun _ => by kernel_rfl
  z4 := fun _ => by kernel_rfl
  v4 := fun _ => by kernel_rfl
  t5 := by kernel_rfl
  a5 := fun _ => by kernel_rfl
  z5 := fun _ => by kernel_rfl
  v5 := fun _ => by kernel_rfl
  t9 := by kernel_rfl
  a9 := fun _ => by kernel_rfl
  z9 := fun _ => by kernel_rfl
  v9 := fun _ => by kernel_rfl
  t46 := by kernel_rfl
  a46 := fun _ => by kernel_rfl
  z46 := fun _ => by kernel_rfl
  v46 := fun _ => by kernel_rfl
  t53 := by kernel_rfl
  a53 := fun _ => by kernel_rfl
  z53 := fun _ => by kernel_rfl
  v53 := fun _ => by kernel_rfl

theorem bitLenAux_eq : ∀ (k n : Nat), n < 2 ^ k → Lib.bitLenAux k n = bitLen n
  | 0, n, h => by
    have : n = 0 := by omega
    subst this; simp [Lib.bitLenAux, bitLen]
  | k + 1, n, h => by
    unfold Lib.bitLenAux
    by_cases h0 : n = 0
    · subst h0; simp [bitLen]
    · rw [if_neg h0, bitLenAux_eq k (n / 2) (by omega)]
      by_cases h1 : n / 2 ^ 1 = 0
      · have : n = 1 := by omega
        subst this; decide
      · have := bitLen_shift n 1 h1
        rw [this]
theorem bitLen_lib {x : Int} (h0 : 0 ≤ x) (h1 : x < 18446744073709551616) : Lib.bitLen x.toNat = bitLen x.toNat := bitLenAux_eq 64 _ (by omega)

def len64S : List AV → PR
  | [.int .u64 x] => if 0 ≤ x ∧ x < 18446744073709551616 then .val (.int .i64 (bitLen x.toNat)) else .fail
  | _ => .fail
@[simp] theorem len64S_val {x : Int} (h : 0 ≤ x ∧ x < 18446744073709551616) : len64S [.int .u64 x] = .val (.int .i64 (bitLen x.toNat)) := if_pos h
theorem len64_ok : SumOk Try.prog 67 (pureS len64S) := by
  refine sum_calls Try.func67 (by kernel_rfl) (by kernel_rfl) ?_ (by intro args v h; unfold len64S at h; split at h <;> (try split at h) <;> simp at h)
  intro args v h
  unfold len64S at h
  split at h
  · split at h
    · cases h
      rename_i x hx
      exact ⟨by simp, by simp, fun ρ w => by
        have := Any.bits_Len64 laysLen x w hx.1 (by omega)
        rw [bitLen_lib hx.1 hx.2] at this
        exact this⟩
    · simp at h
  · simp at h

/-! ifs -/
theorem bind_ite {c : Prop} [Decidable c] {a b : Out} {f : St → Out} : (if c then a else b).bind f = if c then a.bind f else b.bind f := by split <;> rfl
theorem unblock_ite {c : Prop} [Decidable c] {a b : Out} {id : Nat} : unblock id (if c then a else b) = if c then unblock id a else unblock id b := by split <;> rfl
theorem good_ite {c : Prop} [Decidable c] {a b : Out} {Q : Ex → St → Prop} : Good (if c then a else b) Q ↔ (c → Good a Q) ∧ (¬ c → Good b Q) := by
  split <;> rename_i h <;> simp [h]
@[simp] theorem eqv_int {k : IntKind} {a b : Int} : Eqv (.int k a) (.int k b) ↔ a = b := by
  constructor
  · intro h; have := h id; simpa [conc] using this
  · rintro rfl; exact Eqv.refl _
@[simp] theorem eqv_bool {a b : Bool} : Eqv (.bool a) (.bool b) ↔ a = b := by
  constructor
  · intro h; have := h id; simpa [conc] using this
  · rintro rfl; exact Eqv.refl _
theorem eqv_tup2 {a b c d : AV} (h : Eqv a c) (k : Eqv b d) : Eqv (.tup [a, b]) (.tup [c, d]) := by
  intro ρ; simp only [conc, concT, h ρ, k ρ]
theorem eqv_tup3 {a b c d e f : AV} (h : Eqv a d) (k : Eqv b e) (l : Eqv c f) : Eqv (.tup [a, b, c]) (.tup [d, e, f]) := by
  intro ρ; simp only [conc, concT, h ρ, k ρ, l ρ]

end Go.X
