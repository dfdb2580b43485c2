/- Abstract values and abstract memory for walking code by calculation: what they stand for, reading and writing. Plain: no program in sight. -/
import Derived.WalkKit
namespace Go.X

/-- Abstract values. 'undef': nothing is solid. -/
inductive AV where
  | undef
  | bool (b : Bool)
  | int (k : IntKind) (n : Int)
  | arr (k : IntKind) (n : Nat) (f : Nat → Int)
  | agg (l : List AV)
  | tup (l : List AV)
  | ptr (b o : Nat)
  | nilptr
  | slice (b o len cap : Nat)
  | nilslice
  | fn (f : FuncId) (cap : List AV)
  | nilfn
  | iface (t : TypeId) (v : AV)
  | nilif
  deriving Inhabited

structure Blk where
  items : List AV
  ty : TypeId
  deriving Inhabited

def arrCells (k : IntKind) (n : Nat) (f : Nat → Int) : List Value := (List.range n).map fun i => .int k (f i)

mutual
def conc (ρ : Nat → Nat) : AV → Value
  | .undef => Go.undef
  | .bool b => .bool b
  | .int k n => .int k n
  | .arr k n f => .agg (arrCells k n f).toArray
  | .agg l => .agg (concC ρ l).toArray
  | .tup l => .tuple (concT ρ l).toArray
  | .ptr b o => .pointer (some ⟨ρ b, o, none⟩)
  | .nilptr => .pointer none
  | .slice b o len cap => .slice (some ⟨ρ b, o, none⟩) len cap
  | .nilslice => .slice none 0 0
  | .fn f cap => .func (.func f) #[] (concT ρ cap).toArray
  | .nilfn => .nilFunc
  | .iface t v => .iface t (conc ρ v)
  | .nilif => .nilIface
/-- one value each -/
def concT (ρ : Nat → Nat) : List AV → List Value
  | [] => []
  | v :: l => conc ρ v :: concT ρ l
/-- the cells, one behind the other -/
def concC (ρ : Nat → Nat) : List AV → List Value
  | [] => []
  | v :: l => (conc ρ v).cells.toList ++ concC ρ l
end

mutual
/-- the blocks that a value names -/
def refs : AV → List Nat
  | .ptr b _ => [b]
  | .slice b _ _ _ => [b]
  | .agg l => refsL l
  | .tup l => refsL l
  | .fn _ cap => refsL cap
  | .iface _ v => refs v
  | _ => []
def refsL : List AV → List Nat
  | [] => []
  | v :: l => refs v ++ refsL l
end

mutual
/-- nothing unknown within, and no tuple: what a cell, a part, a variable may hold -/
def solid : AV → Bool
  | .undef => false
  | .agg l => solidL l
  | .tup _ => false
  | .fn _ cap => solidL cap
  | .iface _ v => solid v
  | _ => true
def solidL : List AV → Bool
  | [] => true
  | v :: l => solid v && solidL l
end

mutual
def width : AV → Nat
  | .arr _ n _ => n
  | .agg l => widthL l
  | _ => 1
def widthL : List AV → Nat
  | [] => 0
  | v :: l => width v + widthL l
end

mutual
/-- the block numbers turned -/
def AV.ren (θ : Nat → Nat) : AV → AV
  | .agg l => .agg (renL θ l)
  | .tup l => .tup (renL θ l)
  | .ptr b o => .ptr (θ b) o
  | .slice b o len cap => .slice (θ b) o len cap
  | .fn f cap => .fn f (renL θ cap)
  | .iface t v => .iface t (v.ren θ)
  | v => v
def renL (θ : Nat → Nat) : List AV → List AV
  | [] => []
  | v :: l => v.ren θ :: renL θ l
end

mutual
theorem conc_ren (θ ρ : Nat → Nat) : ∀ v : AV, conc ρ (v.ren θ) = conc (ρ ∘ θ) v
  | .agg l => by simp only [AV.ren, conc]; rw [concC_ren θ ρ l]
  | .tup l => by simp only [AV.ren, conc]; rw [concT_ren θ ρ l]
  | .fn f l => by simp only [AV.ren, conc]; rw [concT_ren θ ρ l]
  | .iface t v => by simp only [AV.ren, conc]; rw [conc_ren θ ρ v]
  | .undef | .bool _ | .int .. | .arr .. | .ptr .. | .nilptr | .slice .. | .nilslice | .nilfn | .nilif => by simp [AV.ren, conc]
theorem concT_ren (θ ρ : Nat → Nat) : ∀ l : List AV, concT ρ (renL θ l) = concT (ρ ∘ θ) l
  | [] => rfl
  | v :: l => by simp only [renL, concT]; rw [conc_ren θ ρ v, concT_ren θ ρ l]
theorem concC_ren (θ ρ : Nat → Nat) : ∀ l : List AV, concC ρ (renL θ l) = concC (ρ ∘ θ) l
  | [] => rfl
  | v :: l => by simp only [renL, concC]; rw [conc_ren θ ρ v, concC_ren θ ρ l]
end

mutual
theorem conc_congr {ρ σ : Nat → Nat} : ∀ v : AV, (∀ b ∈ refs v, ρ b = σ b) → conc ρ v = conc σ v
  | .agg l, h => by simp only [conc]; rw [concC_congr l (by simpa [refs] using h)]
  | .tup l, h => by simp only [conc]; rw [concT_congr l (by simpa [refs] using h)]
  | .fn f l, h => by simp only [conc]; rw [concT_congr l (by simpa [refs] using h)]
  | .iface t v, h => by simp only [conc]; rw [conc_congr v (by simpa [refs] using h)]
  | .ptr b o, h => by simp only [conc]; rw [h b (by simp [refs])]
  | .slice b o n c, h => by simp only [conc]; rw [h b (by simp [refs])]
  | .undef, _ | .bool _, _ | .int .., _ | .arr .., _ | .nilptr, _ | .nilslice, _ | .nilfn, _ | .nilif, _ => by simp [conc]
theorem concT_congr {ρ σ : Nat → Nat} : ∀ l : List AV, (∀ b ∈ refsL l, ρ b = σ b) → concT ρ l = concT σ l
  | [], _ => rfl
  | v :: l, h => by
    simp only [concT]
    rw [conc_congr v (fun b hb => h b (by simp [refsL, hb])), concT_congr l (fun b hb => h b (by simp [refsL, hb]))]
theorem concC_congr {ρ σ : Nat → Nat} : ∀ l : List AV, (∀ b ∈ refsL l, ρ b = σ b) → concC ρ l = concC σ l
  | [], _ => rfl
  | v :: l, h => by
    simp only [concC]
    rw [conc_congr v (fun b hb => h b (by simp [refsL, hb])), concC_congr l (fun b hb => h b (by simp [refsL, hb]))]
end

mutual
theorem refs_ren (θ : Nat → Nat) : ∀ v : AV, refs (v.ren θ) = (refs v).map θ
  | .agg l => by simp only [AV.ren, refs]; exact refsL_ren θ l
  | .tup l => by simp only [AV.ren, refs]; exact refsL_ren θ l
  | .fn f l => by simp only [AV.ren, refs]; exact refsL_ren θ l
  | .iface t v => by simp only [AV.ren, refs]; exact refs_ren θ v
  | .undef | .bool _ | .int .. | .arr .. | .ptr .. | .nilptr | .slice .. | .nilslice | .nilfn | .nilif => by simp [AV.ren, refs]
theorem refsL_ren (θ : Nat → Nat) : ∀ l : List AV, refsL (renL θ l) = (refsL l).map θ
  | [] => rfl
  | v :: l => by simp only [renL, refsL, List.map_append]; rw [refs_ren θ v, refsL_ren θ l]
end

mutual
theorem solid_ren (θ : Nat → Nat) : ∀ v : AV, solid (v.ren θ) = solid v
  | .agg l => by simp only [AV.ren, solid]; exact solidL_ren θ l
  | .tup l => by simp only [AV.ren, solid]
  | .fn f l => by simp only [AV.ren, solid]; exact solidL_ren θ l
  | .iface t v => by simp only [AV.ren, solid]; exact solid_ren θ v
  | .undef | .bool _ | .int .. | .arr .. | .ptr .. | .nilptr | .slice .. | .nilslice | .nilfn | .nilif => by simp [AV.ren, solid]
theorem solidL_ren (θ : Nat → Nat) : ∀ l : List AV, solidL (renL θ l) = solidL l
  | [] => rfl
  | v :: l => by simp only [renL, solidL]; rw [solid_ren θ v, solidL_ren θ l]
end

theorem length_arrCells (k : IntKind) (n : Nat) (f : Nat → Int) : (arrCells k n f).length = n := by simp [arrCells]

mutual
theorem length_cells (ρ : Nat → Nat) : ∀ v : AV, (conc ρ v).cells.toList.length = width v
  | .agg l => by simp only [conc, Value.cells, width]; exact length_concC ρ l
  | .arr k n f => by simp [conc, Value.cells, width, length_arrCells]
  | .undef | .bool _ | .int .. | .tup .. | .fn .. | .iface .. | .ptr .. | .nilptr | .slice .. | .nilslice | .nilfn | .nilif => by simp [conc, Value.cells, width, Go.undef]
theorem length_concC (ρ : Nat → Nat) : ∀ l : List AV, (concC ρ l).length = widthL l
  | [] => rfl
  | v :: l => by simp only [concC, widthL, List.length_append]; rw [length_cells ρ v, length_concC ρ l]
end

theorem concC_append (ρ : Nat → Nat) : ∀ a b : List AV, concC ρ (a ++ b) = concC ρ a ++ concC ρ b
  | [], b => rfl
  | v :: a, b => by simp only [List.cons_append, concC]; rw [concC_append ρ a b, List.append_assoc]
theorem refsL_append : ∀ a b : List AV, refsL (a ++ b) = refsL a ++ refsL b
  | [], b => rfl
  | v :: a, b => by simp only [List.cons_append, refsL]; rw [refsL_append a b, List.append_assoc]
theorem solidL_append : ∀ a b : List AV, solidL (a ++ b) = (solidL a && solidL b)
  | [], b => by simp [solidL]
  | v :: a, b => by simp only [List.cons_append, solidL]; rw [solidL_append a b, Bool.and_assoc]
theorem widthL_append : ∀ a b : List AV, widthL (a ++ b) = widthL a + widthL b
  | [], b => by simp [widthL]
  | v :: a, b => by simp only [List.cons_append, widthL]; rw [widthL_append a b, Nat.add_assoc]

/-- a value's items: an aggregate's parts, else itself -/
def items : AV → List AV
  | .agg l => l
  | v => [v]

theorem concC_items (ρ : Nat → Nat) (v : AV) : concC ρ (items v) = (conc ρ v).cells.toList := by
  cases v <;> simp [items, concC, conc, Value.cells]
theorem refsL_items (v : AV) : refsL (items v) = refs v := by cases v <;> simp [items, refsL, refs]
theorem solidL_items (v : AV) : solidL (items v) = solid v := by cases v <;> simp [items, solidL, solid]
theorem widthL_items (v : AV) : widthL (items v) = width v := by cases v <;> simp [items, widthL, width]

/-- the first so many cells, and the others; 'none' where that would cut what can't be cut -/
def cut : List AV → Nat → Option (List AV × List AV)
  | l, 0 => some ([], l)
  | [], _ + 1 => none
  | v :: l, n + 1 =>
    if width v ≤ n + 1 then
      match cut l (n + 1 - width v) with
      | some (a, b) => some (v :: a, b)
      | none => none
    else match v with
      | .arr k m f => some ([.arr k (n + 1) f], .arr k (m - (n + 1)) (fun i => f (n + 1 + i)) :: l)
      | _ => none

theorem arrCells_split (k : IntKind) (m n : Nat) (f : Nat → Int) (h : n ≤ m) : arrCells k m f = arrCells k n f ++ arrCells k (m - n) fun i => f (n + i) := by
  have hm : m = n + (m - n) := by omega
  apply List.ext_getElem
  · simp [arrCells]; omega
  · intro i h1 h2
    by_cases hi : i < n
    · rw [List.getElem_append_left (by simpa [arrCells] using hi)]; simp [arrCells]
    · rw [List.getElem_append_right (by simpa [arrCells] using hi)]; simp [arrCells]
      congr 1; omega

theorem cut_spec (ρ : Nat → Nat) : ∀ (l : List AV) (n : Nat) (a b : List AV), cut l n = some (a, b) →
    concC ρ l = concC ρ a ++ concC ρ b ∧ widthL a = n ∧ refsL l = refsL a ++ refsL b ∧ solidL l = (solidL a && solidL b)
  | l, 0, a, b, h => by
    cases l <;> simp only [cut, Option.some.injEq, Prod.mk.injEq] at h <;> obtain ⟨rfl, rfl⟩ := h <;> simp [concC, widthL, refsL, solidL]
  | [], n + 1, a, b, h => by simp [cut] at h
  | v :: l, n + 1, a, b, h => by
    simp only [cut] at h
    by_cases hw : width v ≤ n + 1
    · rw [if_pos hw] at h
      cases hc : cut l (n + 1 - width v) with
      | none => rw [hc] at h; simp at h
      | some p =>
        obtain ⟨a', b'⟩ := p
        rw [hc] at h
        simp only [Option.some.injEq, Prod.mk.injEq] at h
        obtain ⟨rfl, rfl⟩ := h
        obtain ⟨h1, h2, h3, h4⟩ := cut_spec ρ l _ _ _ hc
        refine ⟨?_, ?_, ?_, ?_⟩
        · simp only [concC]; rw [h1, List.append_assoc]
        · simp only [widthL]; omega
        · simp only [refsL]; rw [h3, List.append_assoc]
        · simp only [solidL]; rw [h4, Bool.and_assoc]
    · rw [if_neg hw] at h
      cases v with
      | arr k m f =>
        simp only [Option.some.injEq, Prod.mk.injEq] at h
        obtain ⟨rfl, rfl⟩ := h
        simp only [width] at hw
        refine ⟨?_, by simp [widthL, width], by simp [refsL, refs], by simp [solidL, solid]⟩
        simp only [concC, conc, Value.cells, List.append_nil]
        rw [arrCells_split k m (n + 1) f (by omega), List.append_assoc]
      | _ => simp at h

/-- the cells of an array of numbers, one by one -/
def explode (k : IntKind) (n : Nat) (f : Nat → Int) : List AV := (List.range n).map fun i => .int k (f i)
theorem concC_ints (ρ : Nat → Nat) (k : IntKind) (f : Nat → Int) : ∀ l : List Nat, concC ρ (l.map fun i => .int k (f i)) = l.map fun i => .int k (f i)
  | [] => rfl
  | i :: l => by simp only [List.map_cons, concC, conc, Value.cells]; rw [concC_ints ρ k f l]; rfl
theorem refsL_ints (k : IntKind) (f : Nat → Int) : ∀ l : List Nat, refsL (l.map fun i => .int k (f i)) = []
  | [] => rfl
  | i :: l => by simp only [List.map_cons, refsL, refs, List.nil_append]; exact refsL_ints k f l
theorem solidL_ints (k : IntKind) (f : Nat → Int) : ∀ l : List Nat, solidL (l.map fun i => .int k (f i)) = true
  | [] => rfl
  | i :: l => by simp only [List.map_cons, solidL, solid, Bool.true_and]; exact solidL_ints k f l
theorem concC_explode (ρ : Nat → Nat) (k : IntKind) (n : Nat) (f : Nat → Int) : concC ρ (explode k n f) = arrCells k n f := concC_ints ρ k f _
theorem refsL_explode (k : IntKind) (n : Nat) (f : Nat → Int) : refsL (explode k n f) = [] := refsL_ints k f _
theorem solidL_explode (k : IntKind) (n : Nat) (f : Nat → Int) : solidL (explode k n f) = true := solidL_ints k f _

/-- what is read as one value: of an aggregate's type, the parts; a lone array stays one, but for short ones of other kinds than u64 -/
def asAgg : List AV → AV
  | [.arr k n f] => if k = .u64 ∨ 4 < n then .arr k n f else .agg (explode k n f)
  | l => .agg l
theorem conc_asAgg (ρ : Nat → Nat) (l : List AV) : conc ρ (asAgg l) = .agg (concC ρ l).toArray := by
  unfold asAgg
  split
  · split
    · simp [conc, concC, Value.cells]
    · simp only [conc, concC, Value.cells, List.append_nil]; rw [concC_explode]
  · simp [conc]
theorem refs_asAgg (l : List AV) : refs (asAgg l) = refsL l := by
  unfold asAgg
  split
  · split
    · simp [refs, refsL]
    · simp only [refs, refsL, List.append_nil]; rw [refsL_explode]
  · simp [refs]
theorem solid_asAgg (l : List AV) : solid (asAgg l) = solidL l := by
  unfold asAgg
  split
  · split
    · simp [solid, solidL]
    · simp only [solid, solidL, Bool.and_true]; rw [solidL_explode]
  · simp [solid]

/-- the cells at a place -/
def readRow (l : List AV) (o n : Nat) : Option (List AV) :=
  match l with
  | [.arr k m f] => if o = 0 ∧ n = m then some [.arr k m f] else if o + n ≤ m then some [.arr k n fun i => f (o + i)] else none
  | l => match cut l o with
    | some (_, r) => match cut r n with
      | some (a, _) => some a
      | none => none
    | none => none

theorem readRow_spec {l : List AV} {o n : Nat} {a : List AV} (h : readRow l o n = some a) :
    (∀ ρ, ∃ x y, concC ρ l = x ++ concC ρ a ++ y ∧ x.length = o) ∧ widthL a = n ∧ (∀ b ∈ refsL a, b ∈ refsL l) ∧ (solidL l = true → solidL a = true) := by
  unfold readRow at h
  split at h
  · rename_i k m f
    split at h
    · rename_i hc
      obtain ⟨rfl, rfl⟩ := hc
      simp only [Option.some.injEq] at h
      subst h
      exact ⟨fun ρ => ⟨[], [], by simp, rfl⟩, by simp [widthL, width], fun b hb => hb, fun hk => hk⟩
    · split at h
      · rename_i hc
        simp only [Option.some.injEq] at h
        subst h
        refine ⟨fun ρ => ⟨arrCells k o f, arrCells k (m - o - n) (fun i => f (o + (n + i))), ?_, by simp [arrCells]⟩, by simp [widthL, width], by simp [refsL, refs], by simp [solidL, solid]⟩
        simp only [concC, conc, Value.cells, List.append_nil]
        rw [arrCells_split k m o f (by omega), arrCells_split k (m - o) n (fun i => f (o + i)) (by omega), List.append_assoc]
      · simp at h
  · split at h
    · rename_i x r h1
      split at h
      · rename_i a' y h2
        simp only [Option.some.injEq] at h
        subst h
        obtain ⟨-, p2, p3, p4⟩ := cut_spec id _ _ _ _ h1
        obtain ⟨-, q2, q3, q4⟩ := cut_spec id _ _ _ _ h2
        refine ⟨fun ρ => ⟨concC ρ x, concC ρ y, ?_, ?_⟩, q2, ?_, ?_⟩
        · rw [(cut_spec ρ _ _ _ _ h1).1, (cut_spec ρ _ _ _ _ h2).1, List.append_assoc]
        · rw [length_concC]; exact p2
        · intro b hb; rw [p3, q3]; simp [hb]
        · rw [p4, q4]; simp only [Bool.and_eq_true]; exact fun hh => hh.2.1
      · simp at h
    · simp at h

/-- one cell -/
def readCell (l : List AV) (o : Nat) : Option AV :=
  match l with
  | [.arr k m f] => if o < m then some (.int k (f o)) else none
  | l => match cut l o with
    | some (_, .arr k (_ + 1) f :: _) => some (.int k (f 0))
    | some (_, .arr ..:: _) => none
    | some (_, .agg _ :: _) => none
    | some (_, v :: _) => some v
    | _ => none

theorem readCell_spec {l : List AV} {o : Nat} {v : AV} (h : readCell l o = some v) :
    (∀ ρ, (concC ρ l)[o]? = some (conc ρ v)) ∧ (∀ b ∈ refs v, b ∈ refsL l) ∧ (solidL l = true → solid v = true) := by
  unfold readCell at h
  split at h
  · rename_i k m f
    split at h
    · rename_i hc
      simp only [Option.some.injEq] at h
      subst h
      refine ⟨fun ρ => ?_, by simp [refs], by simp [solid]⟩
      simp [concC, conc, Value.cells, arrCells, hc]
    · simp at h
  · have key : ∀ (x : List AV) (u : AV) (y : List AV), cut l o = some (x, u :: y) → ∀ (c : AV), (∀ ρ, (conc ρ u).cells.toList[0]? = some (conc ρ c)) → (∀ b ∈ refs c, b ∈ refs u) → (solid u = true → solid c = true) →
        (∀ ρ, (concC ρ l)[o]? = some (conc ρ c)) ∧ (∀ b ∈ refs c, b ∈ refsL l) ∧ (solidL l = true → solid c = true) := by
      intro x u y h1 c hc hr hk
      obtain ⟨-, p2, p3, p4⟩ := cut_spec id _ _ _ _ h1
      refine ⟨fun ρ => ?_, fun b hb => ?_, fun hh => ?_⟩
      · rw [(cut_spec ρ _ _ _ _ h1).1]
        have hl : (concC ρ x).length = o := by rw [length_concC]; exact p2
        rw [List.getElem?_append_right (by omega), hl, Nat.sub_self]
        simp only [concC]
        have h0 := hc ρ
        have : 0 < (conc ρ u).cells.toList.length := by
          rcases Nat.lt_or_ge 0 (conc ρ u).cells.toList.length with h' | h'
          · exact h'
          · rw [List.getElem?_eq_none h'] at h0; simp at h0
        rw [List.getElem?_append_left this]; exact h0
      · rw [p3]; simp [refsL, hr b hb]
      · rw [p4] at hh; simp only [solidL, Bool.and_eq_true] at hh; exact hk hh.2.1
    split at h
    · rename_i k n f y h1
      simp only [Option.some.injEq] at h
      subst h
      exact key _ _ _ h1 _ (fun ρ => by simp [conc, Value.cells, arrCells]) (by simp [refs]) (by simp [solid])
    · simp at h
    · simp at h
    · rename_i x u y hna1 hna2 hna3 h1
      simp only [Option.some.injEq] at h
      subst h
      refine key _ _ _ h1 _ (fun ρ => ?_) (fun b hb => hb) (fun hk => hk)
      cases u <;> first | (exfalso; first | exact hna2 _ _ _ rfl | exact hna3 _ rfl) | simp [conc, Value.cells, Go.undef]
    · simp at h


/-- what a slot may hold, if it is known: a solid value, or a tuple of such -/
def okv : AV → Bool
  | .tup l => solidL l
  | v => solid v

theorem okv_of_solid {v : AV} (h : solid v = true) : okv v = true := by cases v <;> first | exact h | (simp [solid] at h)
theorem okv_ren (θ : Nat → Nat) (v : AV) : okv (v.ren θ) = okv v := by
  cases v <;> first | exact solid_ren θ _ | exact solidL_ren θ _

mutual
theorem solid_cells (ρ : Nat → Nat) : ∀ v : AV, solid v = true → ∀ c ∈ (conc ρ v).cells.toList, c.oneCell' = true
  | .agg l, h => by simp only [conc, Value.cells]; exact solidL_cells ρ l (by simpa [solid] using h)
  | .arr k n f, _ => by simp [conc, Value.cells, arrCells, Value.oneCell']
  | .undef, h | .tup _, h => by simp [solid] at h
  | .bool _, _ | .int .., _ | .fn .., _ | .iface .., _ | .ptr .., _ | .nilptr, _ | .slice .., _ | .nilslice, _ | .nilfn, _ | .nilif, _ => by simp [conc, Value.cells, Value.oneCell']
theorem solidL_cells (ρ : Nat → Nat) : ∀ l : List AV, solidL l = true → ∀ c ∈ concC ρ l, c.oneCell' = true
  | [], _ => by simp [concC]
  | v :: l, h => by
    simp only [solidL, Bool.and_eq_true] at h
    simp only [concC, List.mem_append]
    rintro c (hc | hc)
    · exact solid_cells ρ v h.1 c hc
    · exact solidL_cells ρ l h.2 c hc
end

/-- numbers of one kind -/
def intsOf (k : IntKind) : List AV → Option (List Int)
  | [] => some []
  | .int k' n :: l => if k = k' then (intsOf k l).map (n :: ·) else none
  | _ => none
theorem intsOf_spec {k : IntKind} : ∀ {l : List AV} {xs : List Int}, intsOf k l = some xs → (∀ ρ, concC ρ l = xs.map (.int k ·)) ∧ widthL l = xs.length
  | [], xs, h => by simp only [intsOf, Option.some.injEq] at h; subst h; exact ⟨fun _ => rfl, rfl⟩
  | v :: l, xs, h => by
    cases v with
    | int k' n =>
      simp only [intsOf] at h
      split at h
      · rename_i hk
        subst hk
        cases hl : intsOf k l with
        | none => rw [hl] at h; simp at h
        | some ys =>
          rw [hl] at h
          simp only [Option.map_some, Option.some.injEq] at h
          subst h
          obtain ⟨h1, h2⟩ := intsOf_spec hl
          exact ⟨fun ρ => by simp only [concC, conc, Value.cells]; rw [h1 ρ]; rfl, by simp only [widthL, width, List.length_cons]; omega⟩
      · simp at h
    | _ => simp [intsOf] at h

def updL (f : Nat → Int) (o : Nat) (xs : List Int) : Nat → Int := fun i => if o ≤ i ∧ i < o + xs.length then xs.getD (i - o) 0 else f i
def updN (f : Nat → Int) (o n : Nat) (g : Nat → Int) : Nat → Int := fun i => if o ≤ i ∧ i < o + n then g (i - o) else f i
def upd (f : Nat → Int) (o : Nat) (x : Int) : Nat → Int := fun i => if i = o then x else f i

/-- cells put in the place of others -/
def writeRow (l : List AV) (o : Nat) (vs : List AV) : Option (List AV) :=
  match l, vs with
  | [.arr k m f], [.int k' x] => if k = k' ∧ o < m then some [.arr k m (upd f o x)] else none
  | [.arr k m f], [.arr k' n g] => if k = k' ∧ o = 0 ∧ n = m then some [.arr k m g] else if k = k' ∧ o + n ≤ m then some [.arr k m (updN f o n g)] else none
  | [.arr k m f], vs => match intsOf k vs with
    | some xs => if o + xs.length ≤ m then some [.arr k m (updL f o xs)] else none
    | none => none
  | l, vs => match cut l o with
    | some (a, r) => match cut r (widthL vs) with
      | some (_, b) => some (a ++ vs ++ b)
      | none => none
    | none => none

theorem arrCells_put (k : IntKind) (m o : Nat) (f h : Nat → Int) (ys : List Value) (hl : o + ys.length ≤ m) (h1 : ∀ i, o ≤ i → i < o + ys.length → ys[i - o]? = some (.int k (h i)))
    (h2 : ∀ i, ¬ (o ≤ i ∧ i < o + ys.length) → h i = f i) : arrCells k m h = (arrCells k m f).take o ++ ys ++ (arrCells k m f).drop (o + ys.length) := by
  apply List.ext_getElem?
  intro i
  have hlen : (arrCells k m f).length = m := length_arrCells k m f
  have e1 : ∀ (g : Nat → Int) (i : Nat), (arrCells k m g)[i]? = if i < m then some (.int k (g i)) else none := by
    intro g i; by_cases hi : i < m <;> simp [arrCells, hi]
  rw [e1]
  by_cases ha : i < o
  · rw [List.getElem?_append_left (by simp [hlen]; omega), List.getElem?_append_left (by simp [hlen]; omega), List.getElem?_take, if_pos ha, e1, h2 i (by omega)]
  · by_cases hb : i < o + ys.length
    · rw [List.getElem?_append_left (by simp [hlen]; omega), List.getElem?_append_right (by simp [hlen]; omega)]
      have hm : min o (arrCells k m f).length = o := by rw [hlen]; omega
      simp only [List.length_take, hm]
      rw [h1 i (by omega) hb, if_pos (by omega)]
    · rw [List.getElem?_append_right (by simp [hlen]; omega)]
      have hm : min o (arrCells k m f).length = o := by rw [hlen]; omega
      simp only [List.length_append, List.length_take, hm, List.getElem?_drop]
      rw [e1, show o + ys.length + (i - (o + ys.length)) = i from by omega, h2 i (by omega)]

theorem writeRow_spec {l vs l' : List AV} {o : Nat} (h : writeRow l o vs = some l') :
    (∀ ρ, concC ρ l' = (concC ρ l).take o ++ concC ρ vs ++ (concC ρ l).drop (o + (concC ρ vs).length)) ∧ o + widthL vs ≤ widthL l ∧ (∀ b ∈ refsL l', b ∈ refsL l ∨ b ∈ refsL vs) ∧ (solidL l = true → solidL vs = true → solidL l' = true) := by
  unfold writeRow at h
  split at h
  · rename_i k m f k' x
    split at h
    · rename_i hc
      obtain ⟨rfl, hm⟩ := hc
      simp only [Option.some.injEq] at h
      subst h
      refine ⟨fun ρ => ?_, by simp [widthL, width]; omega, by simp [refsL, refs], by simp [solidL, solid]⟩
      simp only [concC, conc, Value.cells, List.append_nil]
      exact arrCells_put k m o f _ [.int k x] (by simp; omega) (fun i h1 h2 => by simp at h2; have : i = o := by omega
                                                                                  subst this; simp [upd]) (fun i hi => by simp at hi; simp only [upd]; rw [if_neg (by omega)])
    · simp at h
  · rename_i k m f k' n g
    split at h
    · rename_i hc
      obtain ⟨rfl, rfl, rfl⟩ := hc
      simp only [Option.some.injEq] at h
      subst h
      refine ⟨fun ρ => ?_, by simp [widthL, width], by simp [refsL, refs], by simp [solidL, solid]⟩
      simp [concC, conc, Value.cells, length_arrCells]
    · split at h
      · rename_i hc
        obtain ⟨rfl, hm⟩ := hc
        simp only [Option.some.injEq] at h
        subst h
        refine ⟨fun ρ => ?_, by simp [widthL, width]; omega, by simp [refsL, refs], by simp [solidL, solid]⟩
        simp only [concC, conc, Value.cells, List.append_nil]
        exact arrCells_put k m o f _ (arrCells k n g) (by rw [length_arrCells]; omega)
          (fun i h1 h2 => by rw [length_arrCells] at h2; simp only [updN]; rw [if_pos ⟨h1, h2⟩]; simp [arrCells, show i - o < n by omega])
          (fun i hi => by rw [length_arrCells] at hi; simp only [updN]; rw [if_neg hi])
      · simp at h
  · rename_i vs' k m f _ _
    cases hx : intsOf k vs with
    | none => rw [hx] at h; simp at h
    | some xs =>
      rw [hx] at h
      simp only [] at h
      split at h
      · rename_i hc
        simp only [Option.some.injEq] at h
        subst h
        obtain ⟨i1, i2⟩ := intsOf_spec hx
        refine ⟨fun ρ => ?_, by simp [widthL, width]; omega, by simp [refsL, refs], by simp [solidL, solid]⟩
        rw [i1 ρ]
        simp only [concC, conc, Value.cells, List.append_nil]
        exact arrCells_put k m o f _ _ (by simpa using hc)
          (fun i h1 h2 => by
            have h2' : i - o < xs.length := by simp at h2; omega
            simp only [updL]; rw [if_pos ⟨h1, by simpa using h2⟩]; simp [h2'])
          (fun i hi => by simp only [List.length_map] at hi; simp only [updL]; rw [if_neg hi])
      · simp at h
  · split at h
    · rename_i a r h1
      split at h
      · rename_i m b h2
        simp only [Option.some.injEq] at h
        subst h
        obtain ⟨-, p2, p3, p4⟩ := cut_spec id _ _ _ _ h1
        obtain ⟨-, q2, q3, q4⟩ := cut_spec id _ _ _ _ h2
        refine ⟨fun ρ => ?_, ?_, ?_, ?_⟩
        · have e1 := (cut_spec ρ _ _ _ _ h1).1
          have e2 := (cut_spec ρ _ _ _ _ h2).1
          rw [concC_append, concC_append, e1, e2]
          have la : (concC ρ a).length = o := by rw [length_concC]; exact p2
          have lm : (concC ρ m).length = (concC ρ vs).length := by rw [length_concC, length_concC]; exact q2
          rw [List.take_append_of_le_length (by omega), List.take_of_length_le (by omega)]
          rw [← List.append_assoc, List.drop_append_of_le_length (by simp; omega), List.drop_of_length_le (by simp; omega), List.nil_append]
        · have w1 : widthL l = o + widthL r := by
            have := congrArg List.length (cut_spec id _ _ _ _ h1).1
            simp only [List.length_append, length_concC] at this; omega
          have w2 : widthL r = widthL vs + widthL b := by
            have := congrArg List.length (cut_spec id _ _ _ _ h2).1
            simp only [List.length_append, length_concC] at this; omega
          omega
        · intro x hx
          rw [refsL_append, refsL_append] at hx
          rw [p3, q3]
          simp only [List.mem_append] at hx ⊢
          rcases hx with (hx | hx) | hx
          · exact .inl (.inl hx)
          · exact .inr hx
          · exact .inl (.inr (.inr hx))
        · intro hl hv
          rw [p4, q4] at hl
          simp only [Bool.and_eq_true] at hl
          rw [solidL_append, solidL_append, hl.1, hv, hl.2.2]; rfl
      · simp at h
    · simp at h

end Go.X
