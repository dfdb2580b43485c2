/- The world that stands behind an abstract memory, what new blocks and stores do to it, and the types' table. Plain: no program in sight. -/
import Derived.Test.YticlgpdmelhbhaaXA
namespace Go.X

abbrev Mem := Nat → Option Blk

/-- Behind an abstract memory stands a world: block b is block 'ρ b'; 'D', 'ρ0', 'w0': the blocks that were handed in, where they lay, and the world at the start. -/
structure Inv (D : Nat → Prop) (ρ0 : Nat → Nat) (w0 : World) (ρ : Nat → Nat) (mem : Mem) (w : World) : Prop where
  row : ∀ b blk, mem b = some blk → w.heap[ρ b]? = some (.cells (concC ρ blk.items).toArray blk.ty (0, 0))
  inj : ∀ b c, mem b ≠ none → mem c ≠ none → ρ b = ρ c → b = c
  ref : ∀ b blk, mem b = some blk → (∀ c ∈ refsL blk.items, mem c ≠ none) ∧ solidL blk.items = true
  ent : ∀ b, D b → ρ b = ρ0 b ∧ mem b ≠ none
  new : ∀ b, mem b ≠ none → ¬ D b → w0.heap.size ≤ ρ b
  os : w.os = w0.os
  tape : w.tape = w0.tape
  output : w.output = w0.output
  size : w0.heap.size ≤ w.heap.size
  old : ∀ i, i < w0.heap.size → (∀ b, D b → ρ0 b ≠ i) → w.heap[i]? = w0.heap[i]?

/-- what a slot holds -/
def SR (ρ : Nat → Nat) (mem : Mem) (v : AV) (x : Value) : Prop := v = .undef ∨ (x = conc ρ v ∧ okv v = true ∧ ∀ c ∈ refs v, mem c ≠ none)

/-- later: what was known is known -/
def Later (ρ : Nat → Nat) (mem : Mem) (ρ' : Nat → Nat) (mem' : Mem) : Prop := ∀ b, mem b ≠ none → ρ' b = ρ b ∧ mem' b ≠ none

theorem Later.refl (ρ : Nat → Nat) (mem : Mem) : Later ρ mem ρ mem := fun _ h => ⟨rfl, h⟩
theorem Later.trans {ρ ρ' ρ'' : Nat → Nat} {m m' m'' : Mem} (h : Later ρ m ρ' m') (k : Later ρ' m' ρ'' m'') : Later ρ m ρ'' m'' :=
  fun b hb => ⟨(k b (h b hb).2).1.trans (h b hb).1, (k b (h b hb).2).2⟩
theorem SR.later {ρ ρ' : Nat → Nat} {m m' : Mem} {v : AV} {x : Value} (h : SR ρ m v x) (k : Later ρ m ρ' m') : SR ρ' m' v x := by
  rcases h with h | ⟨h1, h2, h3⟩
  · exact .inl h
  · exact .inr ⟨h1.trans (conc_congr v fun b hb => ((k b (h3 b hb)).1).symm), h2, fun c hc => (k c (h3 c hc)).2⟩
theorem SR.undef (ρ : Nat → Nat) (m : Mem) (x : Value) : SR ρ m .undef x := .inl rfl
theorem SR.get {ρ : Nat → Nat} {m : Mem} {v : AV} {x : Value} (h : SR ρ m v x) (hv : v ≠ .undef) : x = conc ρ v ∧ okv v = true ∧ ∀ c ∈ refs v, m c ≠ none := h.resolve_left hv

/-- memory changed -/
def memUp (mem : Mem) : List (Nat × List AV) → Mem
  | [] => mem
  | (b, l) :: up => memUp (fun c => if c = b then (mem c).map fun k => { k with items := l } else mem c) up
def memNew (mem : Mem) (nxt : Nat) (nw : List Blk) : Mem := fun b => if nxt ≤ b ∧ b < nxt + nw.length then nw[b - nxt]? else mem b
theorem memNew_nil (mem : Mem) (nxt : Nat) : memNew mem nxt [] = mem := by
  funext b; unfold memNew; rw [if_neg]; simp
theorem memUp_nil (mem : Mem) : memUp mem [] = mem := rfl

section
variable {D : Nat → Prop} {ρ0 ρ : Nat → Nat} {w0 w : World} {mem : Mem}

theorem Inv.start (hrow : ∀ b blk, mem b = some blk → w.heap[ρ b]? = some (.cells (concC ρ blk.items).toArray blk.ty (0, 0)))
    (hinj : ∀ b c, mem b ≠ none → mem c ≠ none → ρ b = ρ c → b = c)
    (href : ∀ b blk, mem b = some blk → (∀ c ∈ refsL blk.items, mem c ≠ none) ∧ solidL blk.items = true) : Inv (fun b => mem b ≠ none) ρ w ρ mem w :=
  ⟨hrow, hinj, href, fun _ h => ⟨rfl, h⟩, fun _ h k => absurd h k, rfl, rfl, rfl, Nat.le_refl _, fun _ _ _ => rfl⟩

theorem Inv.lt (h : Inv D ρ0 w0 ρ mem w) {b : Nat} (hb : mem b ≠ none) : ρ b < w.heap.size := by
  cases hm : mem b with
  | none => exact absurd hm hb
  | some blk => exact (Array.getElem?_eq_some_iff.1 (h.row b blk hm)).1

theorem Inv.drew (h : Inv D ρ0 w0 ρ mem w) : Inv D ρ0 w0 ρ mem w.drew := ⟨h.row, h.inj, h.ref, h.ent, h.new, h.os, h.tape, h.output, h.size, h.old⟩

/-- a new block -/
theorem Inv.alloc (h : Inv D ρ0 w0 ρ mem w) {n : Nat} (hn : mem n = none) {l : List AV} (t : TypeId) (hl : solidL l = true) (hr : ∀ c ∈ refsL l, mem c ≠ none) :
    ∃ ρ', Inv D ρ0 w0 ρ' (memNew mem n [⟨l, t⟩]) (w.alloc (.cells (concC ρ l).toArray t)) ∧ Later ρ mem ρ' (memNew mem n [⟨l, t⟩]) ∧ ρ' n = w.heap.size := by
  have hm : ∀ b, memNew mem n [⟨l, t⟩] b = if b = n then some ⟨l, t⟩ else mem b := by
    intro b
    unfold memNew
    by_cases hb : b = n
    · subst hb; simp
    · rw [if_neg hb, if_neg]; simp; omega
  have hρ : ∀ b, mem b ≠ none → (fun c => if c = n then w.heap.size else ρ c) b = ρ b := by
    intro b hb
    have : b ≠ n := fun e => hb (e ▸ hn)
    simp [this]
  have hlater : Later ρ mem (fun c => if c = n then w.heap.size else ρ c) (memNew mem n [⟨l, t⟩]) := fun b hb => ⟨hρ b hb, by
    rw [hm]; split
    · simp
    · exact hb⟩
  refine ⟨fun c => if c = n then w.heap.size else ρ c, ⟨?_, ?_, ?_, ?_, ?_, h.os, h.tape, h.output, ?_, ?_⟩, hlater, by simp⟩
  · intro b blk hb
    rw [hm] at hb
    by_cases hbn : b = n
    · subst hbn
      simp only [if_true, Option.some.injEq] at hb
      subst hb
      simp only [if_true]
      rw [← concC_congr l (fun c hc => (hρ c (hr c hc)).symm), heap_alloc_new]
    · rw [if_neg hbn] at hb
      have hnn : mem b ≠ none := by rw [hb]; simp
      have hlt := h.lt hnn
      simp only [if_neg hbn]
      rw [heap_alloc_old _ _ hlt, h.row b blk hb, concC_congr blk.items fun c hc => (hρ c ((h.ref b blk hb).1 c hc)).symm]
  · intro b c hb hc hbc
    rw [hm] at hb hc
    by_cases hbn : b = n <;> by_cases hcn : c = n
    · rw [hbn, hcn]
    · rw [if_neg hcn] at hc
      have := h.lt hc
      simp only [hbn, if_true, if_neg hcn] at hbc
      omega
    · rw [if_neg hbn] at hb
      have := h.lt hb
      simp only [hcn, if_true, if_neg hbn] at hbc
      omega
    · rw [if_neg hbn] at hb; rw [if_neg hcn] at hc
      simp only [if_neg hbn, if_neg hcn] at hbc
      exact h.inj b c hb hc hbc
  · intro b blk hb
    rw [hm] at hb
    by_cases hbn : b = n
    · subst hbn
      simp only [if_true, Option.some.injEq] at hb
      subst hb
      exact ⟨fun c hc => (hlater c (hr c hc)).2, hl⟩
    · rw [if_neg hbn] at hb
      exact ⟨fun c hc => (hlater c ((h.ref b blk hb).1 c hc)).2, (h.ref b blk hb).2⟩
  · intro b hb
    obtain ⟨h1, h2⟩ := h.ent b hb
    exact ⟨(hρ b h2).trans h1, (hlater b h2).2⟩
  · intro b hb hD
    rw [hm] at hb
    by_cases hbn : b = n
    · simp only [hbn, if_true]; exact h.size
    · rw [if_neg hbn] at hb
      simp only [if_neg hbn]
      exact h.new b hb hD
  · rw [World.size_alloc]; exact Nat.le_succ_of_le h.size
  · intro i hi hD
    rw [heap_alloc_old _ _ (Nat.lt_of_lt_of_le hi h.size)]
    exact h.old i hi hD

/-- a row of cells put in another's place -/
theorem Inv.put (h : Inv D ρ0 w0 ρ mem w) {b : Nat} {blk : Blk} (hb : mem b = some blk) {l : List AV} (hl : solidL l = true) (hr : ∀ c ∈ refsL l, mem c ≠ none) :
    Inv D ρ0 w0 ρ (memUp mem [(b, l)]) (w.setRow (ρ b) (concC ρ l).toArray) ∧ Later ρ mem ρ (memUp mem [(b, l)]) := by
  have hm : ∀ c, memUp mem [(b, l)] c = if c = b then some { blk with items := l } else mem c := by
    intro c
    simp only [memUp]
    by_cases hc : c = b
    · subst hc; simp [hb]
    · simp [hc]
  have hnn : mem b ≠ none := by rw [hb]; simp
  have hdom : ∀ c, memUp mem [(b, l)] c ≠ none ↔ mem c ≠ none := by
    intro c; rw [hm]; by_cases hc : c = b
    · subst hc; simp [hnn]
    · simp [hc]
  have hother : ∀ c, mem c ≠ none → c ≠ b → ρ c ≠ ρ b := fun c hc hcb e => hcb (h.inj c b hc hnn e)
  refine ⟨⟨?_, ?_, ?_, ?_, ?_, by rw [setRow_os]; exact h.os, by rw [setRow_tape]; exact h.tape, by rw [setRow_output]; exact h.output, by rw [setRow_size]; exact h.size, ?_⟩, fun c hc => ⟨rfl, (hdom c).2 hc⟩⟩
  · intro c blk' hc
    rw [hm] at hc
    by_cases hcb : c = b
    · subst hcb
      simp only [if_true, Option.some.injEq] at hc
      subst hc
      exact setRow_heap w _ _ _ _ _ (h.row c blk hb)
    · rw [if_neg hcb] at hc
      rw [setRow_other _ _ _ _ (hother c (by rw [hc]; simp) hcb)]
      exact h.row c blk' hc
  · intro c d hc hd
    exact h.inj c d ((hdom c).1 hc) ((hdom d).1 hd)
  · intro c blk' hc
    rw [hm] at hc
    by_cases hcb : c = b
    · rw [if_pos hcb, Option.some.injEq] at hc
      subst hc
      exact ⟨fun d hd => (hdom d).2 (hr d hd), hl⟩
    · rw [if_neg hcb] at hc
      exact ⟨fun d hd => (hdom d).2 ((h.ref c blk' hc).1 d hd), (h.ref c blk' hc).2⟩
  · intro c hc
    exact ⟨(h.ent c hc).1, (hdom c).2 (h.ent c hc).2⟩
  · intro c hc hD
    exact h.new c ((hdom c).1 hc) hD
  · intro i hi hD
    rw [setRow_other]
    · exact h.old i hi hD
    · intro e
      by_cases hDb : D b
      · exact hD b hDb (by rw [← (h.ent b hDb).1, e])
      · have := h.new b hnn hDb
        omega
end

/-! The types' table -/

inductive TK where
  | bool
  | int (k : IntKind)
  | struct (fs : List (Nat × Nat × Bool))
  | array (n es : Nat) (ea : Bool)
  | slice (e : TypeId) (es eb : Nat) (ez : AV)
  | ptr
  | func
  | iface
  | other
structure TI where
  kind : TK
  size : Nat
  zero : AV
  eq : Bool

abbrev TT := TypeId → Option TI

def isAggT (P : Program) (t : TypeId) : Bool := match P.underlying t with | some (.struct _) => true | some (.array ..) => true | _ => false
def TK.agg : TK → Bool | .struct _ => true | .array .. => true | _ => false

/-- the cells of a type that is compared cell by cell: numbers alone; so many -/
def flatFs (P : Program) (g : TypeId → Option Nat) : List Field → Nat → Option Nat
  | [], o => some o
  | f :: fs, o => if f.name = "_" ∨ f.offset ≠ o then none else
    match g f.type, P.info? f.type with
    | some n, some j => if j.size = n then flatFs P g fs (o + n) else none
    | _, _ => none
def flat (P : Program) : Nat → TypeId → Option Nat
  | 0, _ => none
  | h + 1, t => match P.underlying t with
    | some (.int _) => some 1
    | some (.struct fs) => if P.stoodInHeld t then none else flatFs P (flat P h) fs.toList 0
    | some (.array n e) => match flat P h e, P.info? e with
      | some k, some j => if j.size = k then some (n * k) else none
      | _, _ => none
    | _ => none

/-- cells that are numbers, of the same kinds -/
def alike : List Value → List Value → Bool
  | [], [] => true
  | .int k _ :: l, .int k' _ :: m => k == k' && alike l m
  | _, _ => false
def cellsEq : List Value → List Value → Bool
  | .int _ a :: l, .int _ b :: m => a == b && cellsEq l m
  | _, _ => true

end Go.X
