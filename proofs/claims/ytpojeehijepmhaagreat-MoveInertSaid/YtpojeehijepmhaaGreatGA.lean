/- A symbolic executor: values, memory, operations; what is reckoned is what the machine does. -/
import Derived.WalkKit
import Derived.ChangeKeysEq
import Derived.LoopN
import Derived.Defers
import Derived.Laws.Append
import Derived.Orders
import Derived.Scope

section
namespace Go.X
inductive AV where
  | undef
  | bool (b : Bool)
  | int (k : IntKind) (n : Int)
  | arr (k : IntKind) (n : Nat) (f : Nat → Int)
  | agg (l : List AV)
  | tup (l : List AV)
  | ptr (b o : Nat)
  | nilptr
  | slice (b o len cap : Nat)
  | nilslice
  | fn (f : FuncId) (cap : List AV)
  | mv (f : FuncId) (first : List AV)
  | nilfn
  | iface (t : TypeId) (v : AV)
  | nilif
  | win (cs : Array Value) (t : TypeId) (fr : Nat × Nat) (k : IntKind) (f : Nat → Int) (S : Nat → Bool)
  deriving Inhabited
structure Blk where
  items : List AV
  ty : TypeId
  deriving Inhabited
def arrCells (k : IntKind) (n : Nat) (f : Nat → Int) : List Value := (List.range n).map fun i => .int k (f i)
mutual
def conc (ρ : Nat → Nat) : AV → Value
  | .undef => Go.undef
  | .bool b => .bool b
  | .int k n => .int k n
  | .arr k n f => .agg (arrCells k n f).toArray
  | .agg l => .agg (concC ρ l).toArray
  | .tup l => .tuple (concT ρ l).toArray
  | .ptr b o => .pointer (some ⟨ρ b, o, none⟩)
  | .nilptr => .pointer none
  | .slice b o len cap => .slice (some ⟨ρ b, o, none⟩) len cap
  | .nilslice => .slice none 0 0
  | .fn f cap => .func (.func f) #[] (concT ρ cap).toArray
  | .mv f first => .func (.func f) (concT ρ first).toArray #[]
  | .nilfn => .nilFunc
  | .iface t v => .iface t (conc ρ v)
  | .nilif => .nilIface
  | .win .. => .nilIface
def concT (ρ : Nat → Nat) : List AV → List Value
  | [] => []
  | v :: l => conc ρ v :: concT ρ l
def concC (ρ : Nat → Nat) : List AV → List Value
  | [] => []
  | v :: l => (conc ρ v).cells.toList ++ concC ρ l
end
mutual
def refs : AV → List Nat
  | .ptr b _ => [b]
  | .slice b _ _ _ => [b]
  | .agg l => refsL l
  | .tup l => refsL l
  | .fn _ cap => refsL cap
  | .mv _ first => refsL first
  | .iface _ v => refs v
  | _ => []
def refsL : List AV → List Nat
  | [] => []
  | v :: l => refs v ++ refsL l
end
mutual
def solid : AV → Bool
  | .undef => false
  | .agg l => solidL l
  | .tup _ => false
  | .win .. => false
  | .fn _ cap => solidL cap
  | .mv _ first => solidL first
  | .iface _ v => solid v
  | _ => true
def solidL : List AV → Bool
  | [] => true
  | v :: l => solid v && solidL l
end
mutual
def width : AV → Nat
  | .arr _ n _ => n
  | .agg l => widthL l
  | _ => 1
def widthL : List AV → Nat
  | [] => 0
  | v :: l => width v + widthL l
end
mutual
def AV.ren (θ : Nat → Nat) : AV → AV
  | .agg l => .agg (renL θ l)
  | .tup l => .tup (renL θ l)
  | .ptr b o => .ptr (θ b) o
  | .slice b o len cap => .slice (θ b) o len cap
  | .fn f cap => .fn f (renL θ cap)
  | .mv f first => .mv f (renL θ first)
  | .iface t v => .iface t (v.ren θ)
  | v => v
def renL (θ : Nat → Nat) : List AV → List AV
  | [] => []
  | v :: l => v.ren θ :: renL θ l
end
mutual
theorem conc_ren (θ ρ : Nat → Nat) : ∀ v : AV, conc ρ (v.ren θ) = conc (ρ ∘ θ) v
  | .agg l => by simp only [AV.ren, conc]; rw [concC_ren θ ρ l]
  | .tup l => by simp only [AV.ren, conc]; rw [concT_ren θ ρ l]
  | .fn f l => by simp only [AV.ren, conc]; rw [concT_ren θ ρ l]
  | .mv f l => by simp only [AV.ren, conc]; rw [concT_ren θ ρ l]
  | .iface t v => by simp only [AV.ren, conc]; rw [conc_ren θ ρ v]
  | .undef | .bool _ | .int .. | .arr .. | .ptr .. | .nilptr | .slice .. | .nilslice | .nilfn | .nilif | .win .. => by simp [AV.ren, conc]
theorem concT_ren (θ ρ : Nat → Nat) : ∀ l : List AV, concT ρ (renL θ l) = concT (ρ ∘ θ) l
  | [] => rfl
  | v :: l => by simp only [renL, concT]; rw [conc_ren θ ρ v, concT_ren θ ρ l]
theorem concC_ren (θ ρ : Nat → Nat) : ∀ l : List AV, concC ρ (renL θ l) = concC (ρ ∘ θ) l
  | [] => rfl
  | v :: l => by simp only [renL, concC]; rw [conc_ren θ ρ v, concC_ren θ ρ l]
end
mutual
theorem conc_congr {ρ σ : Nat → Nat} : ∀ v : AV, (∀ b ∈ refs v, ρ b = σ b) → conc ρ v = conc σ v
  | .agg l, h => by simp only [conc]; rw [concC_congr l (by simpa [refs] using h)]
  | .tup l, h => by simp only [conc]; rw [concT_congr l (by simpa [refs] using h)]
  | .fn f l, h => by simp only [conc]; rw [concT_congr l (by simpa [refs] using h)]
  | .mv f l, h => by simp only [conc]; rw [concT_congr l (by simpa [refs] using h)]
  | .iface t v, h => by simp only [conc]; rw [conc_congr v (by simpa [refs] using h)]
  | .ptr b o, h => by simp only [conc]; rw [h b (by simp [refs])]
  | .slice b o n c, h => by simp only [conc]; rw [h b (by simp [refs])]
  | .undef, _ | .bool _, _ | .int .., _ | .arr .., _ | .nilptr, _ | .nilslice, _ | .nilfn, _ | .nilif, _ | .win .., _ => by simp [conc]
theorem concT_congr {ρ σ : Nat → Nat} : ∀ l : List AV, (∀ b ∈ refsL l, ρ b = σ b) → concT ρ l = concT σ l
  | [], _ => rfl
  | v :: l, h => by
    simp only [concT]
    rw [conc_congr v (fun b hb => h b (by simp [refsL, hb])), concT_congr l (fun b hb => h b (by simp [refsL, hb]))]
theorem concC_congr {ρ σ : Nat → Nat} : ∀ l : List AV, (∀ b ∈ refsL l, ρ b = σ b) → concC ρ l = concC σ l
  | [], _ => rfl
  | v :: l, h => by
    simp only [concC]
    rw [conc_congr v (fun b hb => h b (by simp [refsL, hb])), concC_congr l (fun b hb => h b (by simp [refsL, hb]))]
end
mutual
theorem refs_ren (θ : Nat → Nat) : ∀ v : AV, refs (v.ren θ) = (refs v).map θ
  | .agg l => by simp only [AV.ren, refs]; exact refsL_ren θ l
  | .tup l => by simp only [AV.ren, refs]; exact refsL_ren θ l
  | .fn f l => by simp only [AV.ren, refs]; exact refsL_ren θ l
  | .mv f l => by simp only [AV.ren, refs]; exact refsL_ren θ l
  | .iface t v => by simp only [AV.ren, refs]; exact refs_ren θ v
  | .undef | .bool _ | .int .. | .arr .. | .ptr .. | .nilptr | .slice .. | .nilslice | .nilfn | .nilif | .win .. => by simp [AV.ren, refs]
theorem refsL_ren (θ : Nat → Nat) : ∀ l : List AV, refsL (renL θ l) = (refsL l).map θ
  | [] => rfl
  | v :: l => by simp only [renL, refsL, List.map_append]; rw [refs_ren θ v, refsL_ren θ l]
end
mutual
theorem solid_ren (θ : Nat → Nat) : ∀ v : AV, solid (v.ren θ) = solid v
  | .agg l => by simp only [AV.ren, solid]; exact solidL_ren θ l
  | .tup l => by simp only [AV.ren, solid]
  | .fn f l => by simp only [AV.ren, solid]; exact solidL_ren θ l
  | .mv f l => by simp only [AV.ren, solid]; exact solidL_ren θ l
  | .iface t v => by simp only [AV.ren, solid]; exact solid_ren θ v
  | .undef | .bool _ | .int .. | .arr .. | .ptr .. | .nilptr | .slice .. | .nilslice | .nilfn | .nilif | .win .. => by simp [AV.ren, solid]
theorem solidL_ren (θ : Nat → Nat) : ∀ l : List AV, solidL (renL θ l) = solidL l
  | [] => rfl
  | v :: l => by simp only [renL, solidL]; rw [solid_ren θ v, solidL_ren θ l]
end
theorem length_arrCells (k : IntKind) (n : Nat) (f : Nat → Int) : (arrCells k n f).length = n := by simp [arrCells]
mutual
theorem length_cells (ρ : Nat → Nat) : ∀ v : AV, (conc ρ v).cells.toList.length = width v
  | .agg l => by simp only [conc, Value.cells, width]; exact length_concC ρ l
  | .arr k n f => by simp [conc, Value.cells, width, length_arrCells]
  | .undef | .bool _ | .int .. | .tup .. | .fn .. | .mv .. | .iface .. | .ptr .. | .nilptr | .slice .. | .nilslice | .nilfn | .nilif | .win .. => by simp [conc, Value.cells, width, Go.undef]
theorem length_concC (ρ : Nat → Nat) : ∀ l : List AV, (concC ρ l).length = widthL l
  | [] => rfl
  | v :: l => by simp only [concC, widthL, List.length_append]; rw [length_cells ρ v, length_concC ρ l]
end
theorem concC_append (ρ : Nat → Nat) : ∀ a b : List AV, concC ρ (a ++ b) = concC ρ a ++ concC ρ b
  | [], b => rfl
  | v :: a, b => by simp only [List.cons_append, concC]; rw [concC_append ρ a b, List.append_assoc]
theorem refsL_append : ∀ a b : List AV, refsL (a ++ b) = refsL a ++ refsL b
  | [], b => rfl
  | v :: a, b => by simp only [List.cons_append, refsL]; rw [refsL_append a b, List.append_assoc]
theorem solidL_append : ∀ a b : List AV, solidL (a ++ b) = (solidL a && solidL b)
  | [], b => by simp [solidL]
  | v :: a, b => by simp only [List.cons_append, solidL]; rw [solidL_append a b, Bool.and_assoc]
theorem widthL_append : ∀ a b : List AV, widthL (a ++ b) = widthL a + widthL b
  | [], b => by simp [widthL]
  | v :: a, b => by simp only [List.cons_append, widthL]; rw [widthL_append a b, Nat.add_assoc]
def items : AV → List AV
  | .agg l => l
  | v => [v]
theorem concC_items (ρ : Nat → Nat) (v : AV) : concC ρ (items v) = (conc ρ v).cells.toList := by
  cases v <;> simp [items, concC, conc, Value.cells]
theorem refsL_items (v : AV) : refsL (items v) = refs v := by cases v <;> simp [items, refsL, refs]
theorem solidL_items (v : AV) : solidL (items v) = solid v := by cases v <;> simp [items, solidL, solid]
theorem widthL_items (v : AV) : widthL (items v) = width v := by cases v <;> simp [items, widthL, width]
def cut : List AV → Nat → Option (List AV × List AV)
  | l, 0 => some ([], l)
  | [], _ + 1 => none
  | v :: l, n + 1 =>
    if width v ≤ n + 1 then
      match cut l (n + 1 - width v) with
      | some (a, b) => some (v :: a, b)
      | none => none
    else match v with
      | .arr k m f => some ([.arr k (n + 1) f], .arr k (m - (n + 1)) (fun i => f (n + 1 + i)) :: l)
      | _ => none
theorem arrCells_split (k : IntKind) (m n : Nat) (f : Nat → Int) (h : n ≤ m) : arrCells k m f = arrCells k n f ++ arrCells k (m - n) fun i => f (n + i) := by
  have hm : m = n + (m - n) := by omega
  apply List.ext_getElem
  · simp [arrCells]; omega
  · intro i h1 h2
    by_cases hi : i < n
    · rw [List.getElem_append_left (by simpa [arrCells] using hi)]; simp [arrCells]
    · rw [List.getElem_append_right (by simpa [arrCells] using hi)]; simp [arrCells]
      congr 1; omega
theorem cut_spec (ρ : Nat → Nat) : ∀ (l : List AV) (n : Nat) (a b : List AV), cut l n = some (a, b) →
    concC ρ l = concC ρ a ++ concC ρ b ∧ widthL a = n ∧ refsL l = refsL a ++ refsL b ∧ solidL l = (solidL a && solidL b)
  | l, 0, a, b, h => by
    cases l <;> simp only [cut, Option.some.injEq, Prod.mk.injEq] at h <;> obtain ⟨rfl, rfl⟩ := h <;> simp [concC, widthL, refsL, solidL]
  | [], n + 1, a, b, h => by simp [cut] at h
  | v :: l, n + 1, a, b, h => by
    simp only [cut] at h
    by_cases hw : width v ≤ n + 1
    · rw [if_pos hw] at h
      cases hc : cut l (n + 1 - width v) with
      | none => rw [hc] at h; simp at h
      | some p =>
        obtain ⟨a', b'⟩ := p
        rw [hc] at h
        simp only [Option.some.injEq, Prod.mk.injEq] at h
        obtain ⟨rfl, rfl⟩ := h
        obtain ⟨h1, h2, h3, h4⟩ := cut_spec ρ l _ _ _ hc
        refine ⟨?_, ?_, ?_, ?_⟩
        · simp only [concC]; rw [h1, List.append_assoc]
        · simp only [widthL]; omega
        · simp only [refsL]; rw [h3, List.append_assoc]
        · simp only [solidL]; rw [h4, Bool.and_assoc]
    · rw [if_neg hw] at h
      cases v with
      | arr k m f =>
        simp only [Option.some.injEq, Prod.mk.injEq] at h
        obtain ⟨rfl, rfl⟩ := h
        simp only [width] at hw
        refine ⟨?_, by simp [widthL, width], by simp [refsL, refs], by simp [solidL, solid]⟩
        simp only [concC, conc, Value.cells, List.append_nil]
        rw [arrCells_split k m (n + 1) f (by omega), List.append_assoc]
      | _ => simp at h
def explode (k : IntKind) (n : Nat) (f : Nat → Int) : List AV := (List.range n).map fun i => .int k (f i)
theorem concC_ints (ρ : Nat → Nat) (k : IntKind) (f : Nat → Int) : ∀ l : List Nat, concC ρ (l.map fun i => .int k (f i)) = l.map fun i => .int k (f i)
  | [] => rfl
  | i :: l => by simp only [List.map_cons, concC, conc, Value.cells]; rw [concC_ints ρ k f l]; rfl
theorem refsL_ints (k : IntKind) (f : Nat → Int) : ∀ l : List Nat, refsL (l.map fun i => .int k (f i)) = []
  | [] => rfl
  | i :: l => by simp only [List.map_cons, refsL, refs, List.nil_append]; exact refsL_ints k f l
theorem solidL_ints (k : IntKind) (f : Nat → Int) : ∀ l : List Nat, solidL (l.map fun i => .int k (f i)) = true
  | [] => rfl
  | i :: l => by simp only [List.map_cons, solidL, solid, Bool.true_and]; exact solidL_ints k f l
theorem concC_explode (ρ : Nat → Nat) (k : IntKind) (n : Nat) (f : Nat → Int) : concC ρ (explode k n f) = arrCells k n f := concC_ints ρ k f _
theorem refsL_explode (k : IntKind) (n : Nat) (f : Nat → Int) : refsL (explode k n f) = [] := refsL_ints k f _
theorem solidL_explode (k : IntKind) (n : Nat) (f : Nat → Int) : solidL (explode k n f) = true := solidL_ints k f _
def asAgg : List AV → AV
  | [.arr k n f] => if k = .u64 ∨ 4 < n then .arr k n f else .agg (explode k n f)
  | l => .agg l
theorem conc_asAgg (ρ : Nat → Nat) (l : List AV) : conc ρ (asAgg l) = .agg (concC ρ l).toArray := by
  unfold asAgg
  split
  · split
    · simp [conc, concC, Value.cells]
    · simp only [conc, concC, Value.cells, List.append_nil]; rw [concC_explode]
  · simp [conc]
theorem refs_asAgg (l : List AV) : refs (asAgg l) = refsL l := by
  unfold asAgg
  split
  · split
    · simp [refs, refsL]
    · simp only [refs, refsL, List.append_nil]; rw [refsL_explode]
  · simp [refs]
theorem solid_asAgg (l : List AV) : solid (asAgg l) = solidL l := by
  unfold asAgg
  split
  · split
    · simp [solid, solidL]
    · simp only [solid, solidL, Bool.and_true]; rw [solidL_explode]
  · simp [solid]
def readRow (l : List AV) (o n : Nat) : Option (List AV) :=
  match l with
  | [.win ..] => none
  | [.arr k m f] => if o = 0 ∧ n = m then some [.arr k m f] else if o + n ≤ m then some [.arr k n fun i => f (o + i)] else none
  | l => match cut l o with
    | some (_, r) => match cut r n with
      | some (a, _) => some a
      | none => none
    | none => none
theorem readRow_spec {l : List AV} {o n : Nat} {a : List AV} (h : readRow l o n = some a) :
    (∀ ρ, ∃ x y, concC ρ l = x ++ concC ρ a ++ y ∧ x.length = o) ∧ widthL a = n ∧ (∀ b ∈ refsL a, b ∈ refsL l) ∧ (solidL l = true → solidL a = true) := by
  unfold readRow at h
  split at h
  · simp at h
  · rename_i k m f
    split at h
    · rename_i hc
      obtain ⟨rfl, rfl⟩ := hc
      simp only [Option.some.injEq] at h
      subst h
      exact ⟨fun ρ => ⟨[], [], by simp, rfl⟩, by simp [widthL, width], fun b hb => hb, fun hk => hk⟩
    · split at h
      · rename_i hc
        simp only [Option.some.injEq] at h
        subst h
        refine ⟨fun ρ => ⟨arrCells k o f, arrCells k (m - o - n) (fun i => f (o + (n + i))), ?_, by simp [arrCells]⟩, by simp [widthL, width], by simp [refsL, refs], by simp [solidL, solid]⟩
        simp only [concC, conc, Value.cells, List.append_nil]
        rw [arrCells_split k m o f (by omega), arrCells_split k (m - o) n (fun i => f (o + i)) (by omega), List.append_assoc]
      · simp at h
  · split at h
    · rename_i x r h1
      split at h
      · rename_i a' y h2
        simp only [Option.some.injEq] at h
        subst h
        obtain ⟨-, p2, p3, p4⟩ := cut_spec id _ _ _ _ h1
        obtain ⟨-, q2, q3, q4⟩ := cut_spec id _ _ _ _ h2
        refine ⟨fun ρ => ⟨concC ρ x, concC ρ y, ?_, ?_⟩, q2, ?_, ?_⟩
        · rw [(cut_spec ρ _ _ _ _ h1).1, (cut_spec ρ _ _ _ _ h2).1, List.append_assoc]
        · rw [length_concC]; exact p2
        · intro b hb; rw [p3, q3]; simp [hb]
        · rw [p4, q4]; simp only [Bool.and_eq_true]; exact fun hh => hh.2.1
      · simp at h
    · simp at h
def isWin : List AV → Bool
  | [.win ..] => true
  | _ => false
theorem readRow_win {l : List AV} {o n : Nat} {a : List AV} (h : readRow l o n = some a) : isWin l = false := by
  unfold isWin
  split
  · simp [readRow] at h
  · rfl
theorem solidL_win {l : List AV} (h : solidL l = true) : isWin l = false := by
  unfold isWin
  split
  · simp [solidL, solid] at h
  · rfl
def SolidB (l : List AV) : Prop := match l with
  | [.win cs _ _ k f S] => ∀ j, S j = true → cs[j]? = some (.int k (f j))
  | l => solidL l = true
theorem SolidB.of {l : List AV} (h : SolidB l) (hw : isWin l = false) : solidL l = true := by
  unfold SolidB at h
  split at h
  · simp [isWin] at hw
  · exact h
theorem SolidB.intro {l : List AV} (h : solidL l = true) : SolidB l := by
  unfold SolidB
  split
  · simp [solidL, solid] at h
  · exact h
def objOf (ρ : Nat → Nat) (blk : Blk) : Obj := match blk.items with
  | [.win cs t fr _ _ _] => .cells cs t fr
  | l => .cells (concC ρ l).toArray blk.ty (0, 0)
theorem objOf_not {ρ : Nat → Nat} {blk : Blk} (h : isWin blk.items = false) : objOf ρ blk = .cells (concC ρ blk.items).toArray blk.ty (0, 0) := by
  unfold objOf
  split
  · rename_i e; rw [e] at h; simp [isWin] at h
  · rfl
theorem objOf_congr {ρ σ : Nat → Nat} {blk : Blk} (h : ∀ b ∈ refsL blk.items, ρ b = σ b) : objOf ρ blk = objOf σ blk := by
  unfold objOf
  split
  · rfl
  · rw [concC_congr blk.items h]
theorem renL_win {θ : Nat → Nat} : ∀ {l : List AV}, isWin (renL θ l) = isWin l
  | [] => rfl
  | [v] => by cases v <;> simp [renL, AV.ren, isWin]
  | u :: v :: l => by simp [renL, isWin]
theorem objOf_ren {θ ρ : Nat → Nat} {l : List AV} {t : TypeId} : objOf ρ ⟨renL θ l, t⟩ = objOf (ρ ∘ θ) ⟨l, t⟩ := by
  cases hw : isWin l with
  | false => rw [objOf_not (by rw [renL_win]; exact hw), objOf_not hw, concC_ren]
  | true =>
    unfold isWin at hw
    split at hw
    · simp [renL, AV.ren, objOf]
    · simp at hw
theorem SolidB_ren {θ : Nat → Nat} {l : List AV} : SolidB (renL θ l) ↔ SolidB l := by
  cases hw : isWin l with
  | false =>
    constructor
    · intro h; have := h.of (by rw [renL_win]; exact hw); rw [solidL_ren] at this; exact SolidB.intro this
    · intro h; have := h.of hw; exact SolidB.intro (by rw [solidL_ren]; exact this)
  | true =>
    unfold isWin at hw
    split at hw
    · simp [renL, AV.ren, SolidB]
    · simp at hw
def covB (S : Nat → Bool) (o n : Nat) : Bool := (List.range n).all fun j => S (o + j)
theorem covB_get {S : Nat → Bool} {o n : Nat} (h : covB S o n = true) {j : Nat} (hj : j < n) : S (o + j) = true := by
  unfold covB at h
  rw [List.all_eq_true] at h
  exact h j (List.mem_range.2 hj)
def readCell (l : List AV) (o : Nat) : Option AV :=
  match l with
  | [.win ..] => none
  | [.arr k m f] => if o < m then some (.int k (f o)) else none
  | l => match cut l o with
    | some (_, .arr k (_ + 1) f :: _) => some (.int k (f 0))
    | some (_, .arr ..:: _) => none
    | some (_, .agg _ :: _) => none
    | some (_, v :: _) => some v
    | _ => none
theorem readCell_win {l : List AV} {o : Nat} {a : AV} (h : readCell l o = some a) : isWin l = false := by
  unfold isWin
  split
  · simp [readCell] at h
  · rfl
theorem readCell_spec {l : List AV} {o : Nat} {v : AV} (h : readCell l o = some v) :
    (∀ ρ, (concC ρ l)[o]? = some (conc ρ v)) ∧ (∀ b ∈ refs v, b ∈ refsL l) ∧ (solidL l = true → solid v = true) := by
  unfold readCell at h
  split at h
  · simp at h
  · rename_i k m f
    split at h
    · rename_i hc
      simp only [Option.some.injEq] at h
      subst h
      refine ⟨fun ρ => ?_, by simp [refs], by simp [solid]⟩
      simp [concC, conc, Value.cells, arrCells, hc]
    · simp at h
  · have key : ∀ (x : List AV) (u : AV) (y : List AV), cut l o = some (x, u :: y) → ∀ (c : AV), (∀ ρ, (conc ρ u).cells.toList[0]? = some (conc ρ c)) → (∀ b ∈ refs c, b ∈ refs u) → (solid u = true → solid c = true) →
        (∀ ρ, (concC ρ l)[o]? = some (conc ρ c)) ∧ (∀ b ∈ refs c, b ∈ refsL l) ∧ (solidL l = true → solid c = true) := by
      intro x u y h1 c hc hr hk
      obtain ⟨-, p2, p3, p4⟩ := cut_spec id _ _ _ _ h1
      refine ⟨fun ρ => ?_, fun b hb => ?_, fun hh => ?_⟩
      · rw [(cut_spec ρ _ _ _ _ h1).1]
        have hl : (concC ρ x).length = o := by rw [length_concC]; exact p2
        rw [List.getElem?_append_right (by omega), hl, Nat.sub_self]
        simp only [concC]
        have h0 := hc ρ
        have : 0 < (conc ρ u).cells.toList.length := by
          rcases Nat.lt_or_ge 0 (conc ρ u).cells.toList.length with h' | h'
          · exact h'
          · rw [List.getElem?_eq_none h'] at h0; simp at h0
        rw [List.getElem?_append_left this]; exact h0
      · rw [p3]; simp [refsL, hr b hb]
      · rw [p4] at hh; simp only [solidL, Bool.and_eq_true] at hh; exact hk hh.2.1
    split at h
    · rename_i k n f y h1
      simp only [Option.some.injEq] at h
      subst h
      exact key _ _ _ h1 _ (fun ρ => by simp [conc, Value.cells, arrCells]) (by simp [refs]) (by simp [solid])
    · simp at h
    · simp at h
    · rename_i x u y hna1 hna2 hna3 h1
      simp only [Option.some.injEq] at h
      subst h
      refine key _ _ _ h1 _ (fun ρ => ?_) (fun b hb => hb) (fun hk => hk)
      cases u <;> first | (exfalso; first | exact hna2 _ _ _ rfl | exact hna3 _ rfl) | simp [conc, Value.cells, Go.undef]
    · simp at h
def okv : AV → Bool
  | .tup l => solidL l
  | v => solid v
theorem okv_of_solid {v : AV} (h : solid v = true) : okv v = true := by cases v <;> first | exact h | (simp [solid] at h)
theorem okv_ren (θ : Nat → Nat) (v : AV) : okv (v.ren θ) = okv v := by
  cases v <;> first | exact solid_ren θ _ | exact solidL_ren θ _
mutual
theorem solid_cells (ρ : Nat → Nat) : ∀ v : AV, solid v = true → ∀ c ∈ (conc ρ v).cells.toList, c.oneCell' = true
  | .agg l, h => by simp only [conc, Value.cells]; exact solidL_cells ρ l (by simpa [solid] using h)
  | .arr k n f, _ => by simp [conc, Value.cells, arrCells, Value.oneCell']
  | .undef, h | .tup _, h | .win .., h => by simp [solid] at h
  | .bool _, _ | .int .., _ | .fn .., _ | .mv .., _ | .iface .., _ | .ptr .., _ | .nilptr, _ | .slice .., _ | .nilslice, _ | .nilfn, _ | .nilif, _ => by simp [conc, Value.cells, Value.oneCell']
theorem solidL_cells (ρ : Nat → Nat) : ∀ l : List AV, solidL l = true → ∀ c ∈ concC ρ l, c.oneCell' = true
  | [], _ => by simp [concC]
  | v :: l, h => by
    simp only [solidL, Bool.and_eq_true] at h
    simp only [concC, List.mem_append]
    rintro c (hc | hc)
    · exact solid_cells ρ v h.1 c hc
    · exact solidL_cells ρ l h.2 c hc
end
def intsOf (k : IntKind) : List AV → Option (List Int)
  | [] => some []
  | .int k' n :: l => if k = k' then (intsOf k l).map (n :: ·) else none
  | _ => none
theorem intsOf_spec {k : IntKind} : ∀ {l : List AV} {xs : List Int}, intsOf k l = some xs → (∀ ρ, concC ρ l = xs.map (.int k ·)) ∧ widthL l = xs.length
  | [], xs, h => by simp only [intsOf, Option.some.injEq] at h; subst h; exact ⟨fun _ => rfl, rfl⟩
  | v :: l, xs, h => by
    cases v with
    | int k' n =>
      simp only [intsOf] at h
      split at h
      · rename_i hk
        subst hk
        cases hl : intsOf k l with
        | none => rw [hl] at h; simp at h
        | some ys =>
          rw [hl] at h
          simp only [Option.map_some, Option.some.injEq] at h
          subst h
          obtain ⟨h1, h2⟩ := intsOf_spec hl
          exact ⟨fun ρ => by simp only [concC, conc, Value.cells]; rw [h1 ρ]; rfl, by simp only [widthL, width, List.length_cons]; omega⟩
      · simp at h
    | _ => simp [intsOf] at h
def updL (f : Nat → Int) (o : Nat) (xs : List Int) : Nat → Int := fun i => if o ≤ i ∧ i < o + xs.length then xs.getD (i - o) 0 else f i
def updN (f : Nat → Int) (o n : Nat) (g : Nat → Int) : Nat → Int := fun i => if o ≤ i ∧ i < o + n then g (i - o) else f i
def upd (f : Nat → Int) (o : Nat) (x : Int) : Nat → Int := fun i => if i = o then x else f i
def writeRow (l : List AV) (o : Nat) (vs : List AV) : Option (List AV) :=
  match l, vs with
  | [.win ..], _ => none
  | [.arr k m f], [.int k' x] => if k = k' ∧ o < m then some [.arr k m (upd f o x)] else none
  | [.arr k m f], [.arr k' n g] => if k = k' ∧ o = 0 ∧ n = m then some [.arr k m g] else if k = k' ∧ o + n ≤ m then some [.arr k m (updN f o n g)] else none
  | [.arr k m f], vs => match intsOf k vs with
    | some xs => if o + xs.length ≤ m then some [.arr k m (updL f o xs)] else none
    | none => none
  | l, vs => match cut l o with
    | some (a, r) => match cut r (widthL vs) with
      | some (_, b) => some (a ++ vs ++ b)
      | none => none
    | none => none
theorem arrCells_put (k : IntKind) (m o : Nat) (f h : Nat → Int) (ys : List Value) (hl : o + ys.length ≤ m) (h1 : ∀ i, o ≤ i → i < o + ys.length → ys[i - o]? = some (.int k (h i)))
    (h2 : ∀ i, ¬ (o ≤ i ∧ i < o + ys.length) → h i = f i) : arrCells k m h = (arrCells k m f).take o ++ ys ++ (arrCells k m f).drop (o + ys.length) := by
  apply List.ext_getElem?
  intro i
  have hlen : (arrCells k m f).length = m := length_arrCells k m f
  have e1 : ∀ (g : Nat → Int) (i : Nat), (arrCells k m g)[i]? = if i < m then some (.int k (g i)) else none := by
    intro g i; by_cases hi : i < m <;> simp [arrCells, hi]
  rw [e1]
  by_cases ha : i < o
  · rw [List.getElem?_append_left (by simp [hlen]; omega), List.getElem?_append_left (by simp [hlen]; omega), List.getElem?_take, if_pos ha, e1, h2 i (by omega)]
  · by_cases hb : i < o + ys.length
    · rw [List.getElem?_append_left (by simp [hlen]; omega), List.getElem?_append_right (by simp [hlen]; omega)]
      have hm : min o (arrCells k m f).length = o := by rw [hlen]; omega
      simp only [List.length_take, hm]
      rw [h1 i (by omega) hb, if_pos (by omega)]
    · rw [List.getElem?_append_right (by simp [hlen]; omega)]
      have hm : min o (arrCells k m f).length = o := by rw [hlen]; omega
      simp only [List.length_append, List.length_take, hm, List.getElem?_drop]
      rw [e1, show o + ys.length + (i - (o + ys.length)) = i from by omega, h2 i (by omega)]
theorem writeRow_win {l vs l' : List AV} {o : Nat} (h : writeRow l o vs = some l') : isWin l = false := by
  unfold isWin
  split
  · simp [writeRow] at h
  · rfl
theorem writeRow_spec {l vs l' : List AV} {o : Nat} (h : writeRow l o vs = some l') :
    (∀ ρ, concC ρ l' = (concC ρ l).take o ++ concC ρ vs ++ (concC ρ l).drop (o + (concC ρ vs).length)) ∧ o + widthL vs ≤ widthL l ∧ (∀ b ∈ refsL l', b ∈ refsL l ∨ b ∈ refsL vs) ∧ (solidL l = true → solidL vs = true → solidL l' = true) := by
  unfold writeRow at h
  split at h
  · simp at h
  · rename_i k m f k' x
    split at h
    · rename_i hc
      obtain ⟨rfl, hm⟩ := hc
      simp only [Option.some.injEq] at h
      subst h
      refine ⟨fun ρ => ?_, by simp [widthL, width]; omega, by simp [refsL, refs], by simp [solidL, solid]⟩
      simp only [concC, conc, Value.cells, List.append_nil]
      exact arrCells_put k m o f _ [.int k x] (by simp; omega) (fun i h1 h2 => by simp at h2; have : i = o := by omega
                                                                                  subst this; simp [upd]) (fun i hi => by simp at hi; simp only [upd]; rw [if_neg (by omega)])
    · simp at h
  · rename_i k m f k' n g
    split at h
    · rename_i hc
      obtain ⟨rfl, rfl, rfl⟩ := hc
      simp only [Option.some.injEq] at h
      subst h
      refine ⟨fun ρ => ?_, by simp [widthL, width], by simp [refsL, refs], by simp [solidL, solid]⟩
      simp [concC, conc, Value.cells, length_arrCells]
    · split at h
      · rename_i hc
        obtain ⟨rfl, hm⟩ := hc
        simp only [Option.some.injEq] at h
        subst h
        refine ⟨fun ρ => ?_, by simp [widthL, width]; omega, by simp [refsL, refs], by simp [solidL, solid]⟩
        simp only [concC, conc, Value.cells, List.append_nil]
        exact arrCells_put k m o f _ (arrCells k n g) (by rw [length_arrCells]; omega)
          (fun i h1 h2 => by rw [length_arrCells] at h2; simp only [updN]; rw [if_pos ⟨h1, h2⟩]; simp [arrCells, show i - o < n by omega])
          (fun i hi => by rw [length_arrCells] at hi; simp only [updN]; rw [if_neg hi])
      · simp at h
  · rename_i vs' k m f _ _
    cases hx : intsOf k vs with
    | none => rw [hx] at h; simp at h
    | some xs =>
      rw [hx] at h
      simp only [] at h
      split at h
      · rename_i hc
        simp only [Option.some.injEq] at h
        subst h
        obtain ⟨i1, i2⟩ := intsOf_spec hx
        refine ⟨fun ρ => ?_, by simp [widthL, width]; omega, by simp [refsL, refs], by simp [solidL, solid]⟩
        rw [i1 ρ]
        simp only [concC, conc, Value.cells, List.append_nil]
        exact arrCells_put k m o f _ _ (by simpa using hc)
          (fun i h1 h2 => by
            have h2' : i - o < xs.length := by simp at h2; omega
            simp only [updL]; rw [if_pos ⟨h1, by simpa using h2⟩]; simp [h2'])
          (fun i hi => by simp only [List.length_map] at hi; simp only [updL]; rw [if_neg hi])
      · simp at h
  · split at h
    · rename_i a r h1
      split at h
      · rename_i m b h2
        simp only [Option.some.injEq] at h
        subst h
        obtain ⟨-, p2, p3, p4⟩ := cut_spec id _ _ _ _ h1
        obtain ⟨-, q2, q3, q4⟩ := cut_spec id _ _ _ _ h2
        refine ⟨fun ρ => ?_, ?_, ?_, ?_⟩
        · have e1 := (cut_spec ρ _ _ _ _ h1).1
          have e2 := (cut_spec ρ _ _ _ _ h2).1
          rw [concC_append, concC_append, e1, e2]
          have la : (concC ρ a).length = o := by rw [length_concC]; exact p2
          have lm : (concC ρ m).length = (concC ρ vs).length := by rw [length_concC, length_concC]; exact q2
          rw [List.take_append_of_le_length (by omega), List.take_of_length_le (by omega)]
          rw [← List.append_assoc, List.drop_append_of_le_length (by simp; omega), List.drop_of_length_le (by simp; omega), List.nil_append]
        · have w1 : widthL l = o + widthL r := by
            have := congrArg List.length (cut_spec id _ _ _ _ h1).1
            simp only [List.length_append, length_concC] at this; omega
          have w2 : widthL r = widthL vs + widthL b := by
            have := congrArg List.length (cut_spec id _ _ _ _ h2).1
            simp only [List.length_append, length_concC] at this; omega
          omega
        · intro x hx
          rw [refsL_append, refsL_append] at hx
          rw [p3, q3]
          simp only [List.mem_append] at hx ⊢
          rcases hx with (hx | hx) | hx
          · exact .inl (.inl hx)
          · exact .inr hx
          · exact .inl (.inr (.inr hx))
        · intro hl hv
          rw [p4, q4] at hl
          simp only [Bool.and_eq_true] at hl
          rw [solidL_append, solidL_append, hl.1, hv, hl.2.2]; rfl
      · simp at h
    · simp at h
end Go.X
end

section
namespace Go.X
abbrev Mem := Nat → Option Blk
structure Inv (D : Nat → Prop) (ρ0 : Nat → Nat) (w0 : World) (ρ : Nat → Nat) (mem : Mem) (w : World) : Prop where
  row : ∀ b blk, mem b = some blk → w.heap[ρ b]? = some (objOf ρ blk)
  inj : ∀ b c, mem b ≠ none → mem c ≠ none → ρ b = ρ c → b = c
  ref : ∀ b blk, mem b = some blk → (∀ c ∈ refsL blk.items, mem c ≠ none) ∧ SolidB blk.items
  ent : ∀ b, D b → ρ b = ρ0 b ∧ mem b ≠ none
  new : ∀ b, mem b ≠ none → ¬ D b → w0.heap.size ≤ ρ b
  os : w.os = w0.os
  tape : w.tape = w0.tape
  output : w.output = w0.output
  size : w0.heap.size ≤ w.heap.size
  old : ∀ i, i < w0.heap.size → (∀ b, D b → ρ0 b ≠ i) → w.heap[i]? = w0.heap[i]?
def SR (ρ : Nat → Nat) (mem : Mem) (v : AV) (x : Value) : Prop := v = .undef ∨ (x = conc ρ v ∧ okv v = true ∧ ∀ c ∈ refs v, mem c ≠ none)
def Later (ρ : Nat → Nat) (mem : Mem) (ρ' : Nat → Nat) (mem' : Mem) : Prop := ∀ b, mem b ≠ none → ρ' b = ρ b ∧ mem' b ≠ none
theorem Later.refl (ρ : Nat → Nat) (mem : Mem) : Later ρ mem ρ mem := fun _ h => ⟨rfl, h⟩
theorem Later.trans {ρ ρ' ρ'' : Nat → Nat} {m m' m'' : Mem} (h : Later ρ m ρ' m') (k : Later ρ' m' ρ'' m'') : Later ρ m ρ'' m'' :=
  fun b hb => ⟨(k b (h b hb).2).1.trans (h b hb).1, (k b (h b hb).2).2⟩
theorem SR.later {ρ ρ' : Nat → Nat} {m m' : Mem} {v : AV} {x : Value} (h : SR ρ m v x) (k : Later ρ m ρ' m') : SR ρ' m' v x := by
  rcases h with h | ⟨h1, h2, h3⟩
  · exact .inl h
  · exact .inr ⟨h1.trans (conc_congr v fun b hb => ((k b (h3 b hb)).1).symm), h2, fun c hc => (k c (h3 c hc)).2⟩
theorem SR.undef (ρ : Nat → Nat) (m : Mem) (x : Value) : SR ρ m .undef x := .inl rfl
theorem SR.get {ρ : Nat → Nat} {m : Mem} {v : AV} {x : Value} (h : SR ρ m v x) (hv : v ≠ .undef) : x = conc ρ v ∧ okv v = true ∧ ∀ c ∈ refs v, m c ≠ none := h.resolve_left hv
def memUp (mem : Mem) : List (Nat × List AV) → Mem
  | [] => mem
  | (b, l) :: up => memUp (fun c => if c = b then (mem c).map fun k => { k with items := l } else mem c) up
def memNew (mem : Mem) (nxt : Nat) (nw : List Blk) : Mem := fun b => if nxt ≤ b ∧ b < nxt + nw.length then nw[b - nxt]? else mem b
theorem memNew_nil (mem : Mem) (nxt : Nat) : memNew mem nxt [] = mem := by
  funext b; unfold memNew; rw [if_neg]; simp
theorem memUp_nil (mem : Mem) : memUp mem [] = mem := rfl
section
variable {D : Nat → Prop} {ρ0 ρ : Nat → Nat} {w0 w : World} {mem : Mem}
theorem Inv.start (hrow : ∀ b blk, mem b = some blk → w.heap[ρ b]? = some (objOf ρ blk))
    (hinj : ∀ b c, mem b ≠ none → mem c ≠ none → ρ b = ρ c → b = c)
    (href : ∀ b blk, mem b = some blk → (∀ c ∈ refsL blk.items, mem c ≠ none) ∧ SolidB blk.items) : Inv (fun b => mem b ≠ none) ρ w ρ mem w :=
  ⟨hrow, hinj, href, fun _ h => ⟨rfl, h⟩, fun _ h k => absurd h k, rfl, rfl, rfl, Nat.le_refl _, fun _ _ _ => rfl⟩
theorem Inv.lt (h : Inv D ρ0 w0 ρ mem w) {b : Nat} (hb : mem b ≠ none) : ρ b < w.heap.size := by
  cases hm : mem b with
  | none => exact absurd hm hb
  | some blk => exact (Array.getElem?_eq_some_iff.1 (h.row b blk hm)).1
theorem Inv.drew (h : Inv D ρ0 w0 ρ mem w) : Inv D ρ0 w0 ρ mem w.drew := ⟨h.row, h.inj, h.ref, h.ent, h.new, h.os, h.tape, h.output, h.size, h.old⟩
theorem Inv.alloc (h : Inv D ρ0 w0 ρ mem w) {n : Nat} (hn : mem n = none) {l : List AV} (t : TypeId) (hl : solidL l = true) (hr : ∀ c ∈ refsL l, mem c ≠ none) :
    ∃ ρ', Inv D ρ0 w0 ρ' (memNew mem n [⟨l, t⟩]) (w.alloc (.cells (concC ρ l).toArray t)) ∧ Later ρ mem ρ' (memNew mem n [⟨l, t⟩]) ∧ ρ' n = w.heap.size := by
  have hm : ∀ b, memNew mem n [⟨l, t⟩] b = if b = n then some ⟨l, t⟩ else mem b := by
    intro b
    unfold memNew
    by_cases hb : b = n
    · subst hb; simp
    · rw [if_neg hb, if_neg]; simp; omega
  have hρ : ∀ b, mem b ≠ none → (fun c => if c = n then w.heap.size else ρ c) b = ρ b := by
    intro b hb
    have : b ≠ n := fun e => hb (e ▸ hn)
    simp [this]
  have hlater : Later ρ mem (fun c => if c = n then w.heap.size else ρ c) (memNew mem n [⟨l, t⟩]) := fun b hb => ⟨hρ b hb, by
    rw [hm]; split
    · simp
    · exact hb⟩
  refine ⟨fun c => if c = n then w.heap.size else ρ c, ⟨?_, ?_, ?_, ?_, ?_, h.os, h.tape, h.output, ?_, ?_⟩, hlater, by simp⟩
  · intro b blk hb
    rw [hm] at hb
    by_cases hbn : b = n
    · subst hbn
      simp only [if_true, Option.some.injEq] at hb
      subst hb
      simp only [if_true]
      rw [objOf_not (solidL_win hl)]
      simp only
      rw [← concC_congr l (fun c hc => (hρ c (hr c hc)).symm), heap_alloc_new]
    · rw [if_neg hbn] at hb
      have hnn : mem b ≠ none := by rw [hb]; simp
      have hlt := h.lt hnn
      simp only [if_neg hbn]
      rw [heap_alloc_old _ _ hlt, h.row b blk hb, objOf_congr fun c hc => (hρ c ((h.ref b blk hb).1 c hc)).symm]
  · intro b c hb hc hbc
    rw [hm] at hb hc
    by_cases hbn : b = n <;> by_cases hcn : c = n
    · rw [hbn, hcn]
    · rw [if_neg hcn] at hc
      have := h.lt hc
      simp only [hbn, if_true, if_neg hcn] at hbc
      omega
    · rw [if_neg hbn] at hb
      have := h.lt hb
      simp only [hcn, if_true, if_neg hbn] at hbc
      omega
    · rw [if_neg hbn] at hb; rw [if_neg hcn] at hc
      simp only [if_neg hbn, if_neg hcn] at hbc
      exact h.inj b c hb hc hbc
  · intro b blk hb
    rw [hm] at hb
    by_cases hbn : b = n
    · subst hbn
      simp only [if_true, Option.some.injEq] at hb
      subst hb
      exact ⟨fun c hc => (hlater c (hr c hc)).2, SolidB.intro hl⟩
    · rw [if_neg hbn] at hb
      exact ⟨fun c hc => (hlater c ((h.ref b blk hb).1 c hc)).2, (h.ref b blk hb).2⟩
  · intro b hb
    obtain ⟨h1, h2⟩ := h.ent b hb
    exact ⟨(hρ b h2).trans h1, (hlater b h2).2⟩
  · intro b hb hD
    rw [hm] at hb
    by_cases hbn : b = n
    · simp only [hbn, if_true]; exact h.size
    · rw [if_neg hbn] at hb
      simp only [if_neg hbn]
      exact h.new b hb hD
  · rw [World.size_alloc]; exact Nat.le_succ_of_le h.size
  · intro i hi hD
    rw [heap_alloc_old _ _ (Nat.lt_of_lt_of_le hi h.size)]
    exact h.old i hi hD
theorem Inv.put (h : Inv D ρ0 w0 ρ mem w) {b : Nat} {blk : Blk} (hb : mem b = some blk) (hw : isWin blk.items = false) {l : List AV} (hl : solidL l = true) (hr : ∀ c ∈ refsL l, mem c ≠ none) :
    Inv D ρ0 w0 ρ (memUp mem [(b, l)]) (w.setRow (ρ b) (concC ρ l).toArray) ∧ Later ρ mem ρ (memUp mem [(b, l)]) := by
  have hm : ∀ c, memUp mem [(b, l)] c = if c = b then some { blk with items := l } else mem c := by
    intro c
    simp only [memUp]
    by_cases hc : c = b
    · subst hc; simp [hb]
    · simp [hc]
  have hnn : mem b ≠ none := by rw [hb]; simp
  have hdom : ∀ c, memUp mem [(b, l)] c ≠ none ↔ mem c ≠ none := by
    intro c; rw [hm]; by_cases hc : c = b
    · subst hc; simp [hnn]
    · simp [hc]
  have hother : ∀ c, mem c ≠ none → c ≠ b → ρ c ≠ ρ b := fun c hc hcb e => hcb (h.inj c b hc hnn e)
  refine ⟨⟨?_, ?_, ?_, ?_, ?_, by rw [setRow_os]; exact h.os, by rw [setRow_tape]; exact h.tape, by rw [setRow_output]; exact h.output, by rw [setRow_size]; exact h.size, ?_⟩, fun c hc => ⟨rfl, (hdom c).2 hc⟩⟩
  · intro c blk' hc
    rw [hm] at hc
    by_cases hcb : c = b
    · subst hcb
      simp only [if_true, Option.some.injEq] at hc
      subst hc
      have h0 := h.row c blk hb
      rw [objOf_not hw] at h0
      rw [objOf_not (solidL_win hl)]
      exact setRow_heap w _ _ _ _ _ h0
    · rw [if_neg hcb] at hc
      rw [setRow_other _ _ _ _ (hother c (by rw [hc]; simp) hcb)]
      exact h.row c blk' hc
  · intro c d hc hd
    exact h.inj c d ((hdom c).1 hc) ((hdom d).1 hd)
  · intro c blk' hc
    rw [hm] at hc
    by_cases hcb : c = b
    · rw [if_pos hcb, Option.some.injEq] at hc
      subst hc
      exact ⟨fun d hd => (hdom d).2 (hr d hd), SolidB.intro hl⟩
    · rw [if_neg hcb] at hc
      exact ⟨fun d hd => (hdom d).2 ((h.ref c blk' hc).1 d hd), (h.ref c blk' hc).2⟩
  · intro c hc
    exact ⟨(h.ent c hc).1, (hdom c).2 (h.ent c hc).2⟩
  · intro c hc hD
    exact h.new c ((hdom c).1 hc) hD
  · intro i hi hD
    rw [setRow_other]
    · exact h.old i hi hD
    · intro e
      by_cases hDb : D b
      · exact hD b hDb (by rw [← (h.ent b hDb).1, e])
      · have := h.new b hnn hDb
        omega
end
inductive TK where
  | bool
  | int (k : IntKind)
  | struct (fs : List (Nat × Nat × Bool))
  | array (n es : Nat) (ea : Bool)
  | slice (e : TypeId) (es eb : Nat) (ez : AV)
  | ptr
  | func
  | iface
  | other
structure TI where
  kind : TK
  size : Nat
  zero : AV
  eq : Bool
abbrev TT := TypeId → Option TI
def isAggT (P : Program) (t : TypeId) : Bool := match P.underlying t with | some (.struct _) => true | some (.array ..) => true | _ => false
def TK.agg : TK → Bool | .struct _ => true | .array .. => true | _ => false
def flatFs (P : Program) (g : TypeId → Option Nat) : List Field → Nat → Option Nat
  | [], o => some o
  | f :: fs, o => if f.name = "_" ∨ f.offset ≠ o then none else
    match g f.type, P.info? f.type with
    | some n, some j => if j.size = n then flatFs P g fs (o + n) else none
    | _, _ => none
def flat (P : Program) : Nat → TypeId → Option Nat
  | 0, _ => none
  | h + 1, t => match P.underlying t with
    | some (.int _) => some 1
    | some (.struct fs) => if P.stoodInHeld t then none else flatFs P (flat P h) fs.toList 0
    | some (.array n e) => match flat P h e, P.info? e with
      | some k, some j => if j.size = k then some (n * k) else none
      | _, _ => none
    | _ => none
def alike : List Value → List Value → Bool
  | [], [] => true
  | .int k _ :: l, .int k' _ :: m => k == k' && alike l m
  | _, _ => false
def cellsEq : List Value → List Value → Bool
  | .int _ a :: l, .int _ b :: m => a == b && cellsEq l m
  | _, _ => true
end Go.X
end

section
namespace Go.X
inductive OR where
  | val (v : AV) (up : List (Nat × List AV)) (nw : List Blk)
  | pan (v : AV) (up : List (Nat × List AV)) (nw : List Blk)
  | fail
def absV : Value → AV
  | .bool b => .bool b
  | .int k n => .int k n
  | .pointer none => .nilptr
  | .slice none 0 0 => .nilslice
  | .nilFunc => .nilfn
  | .nilIface => .nilif
  | .iface t (.agg ⟨[]⟩) => .iface t (.agg [])
  | .agg ⟨[]⟩ => .agg []
  | _ => .undef
def evA (ts : List AV) : Operand → AV
  | .tmp t => ts.getD t .undef
  | .const v => absV v
  | .global _ => .undef
  | .func f => .fn f []
def pickA (c : Bool) : AV → AV → AV
  | .bool x, .bool y => .bool (bif c then x else y)
  | a, b => bif c then a else b
def bitsA (op : BinOp) (k : IntKind) (a b : Int) : Int :=
  match op with
  | .and => k.wrap (BitVec.ofInt k.bits a &&& BitVec.ofInt k.bits b).toNat
  | .or => k.wrap (BitVec.ofInt k.bits a ||| BitVec.ofInt k.bits b).toNat
  | .xor => k.wrap (BitVec.ofInt k.bits a ^^^ BitVec.ofInt k.bits b).toNat
  | _ => k.wrap (BitVec.ofInt k.bits a &&& ~~~ BitVec.ofInt k.bits b).toNat
def shlA (k : IntKind) (a : Int) (n : Nat) : Int := k.wrap (a * 2 ^ (min n k.bits))
def shrA (k : IntKind) (a : Int) (n : Nat) : Int := a.fdiv (2 ^ (min n k.bits))
def eqArr (n : Nat) (f g : Nat → Int) : Bool := (List.range n).all fun i => f i == g i
def eqItems : List AV → List AV → Option Bool
  | [], [] => some true
  | .int k a :: l, .int k' b :: m => if k = k' then (eqItems l m).map fun r => a == b && r else none
  | .arr k n f :: l, .arr k' n' g :: m => if k = k' ∧ n = n' then (eqItems l m).map fun r => eqArr n f g && r else none
  | _, _ => none
def flatI : List AV → List AV
  | [] => []
  | .arr k n f :: l => explode k n f ++ flatI l
  | v :: l => v :: flatI l
def eqA (l m : List AV) : Option Bool :=
  match eqItems l m with
  | some r => some r
  | none => eqItems (flatI l) (flatI m)
def intA (op : BinOp) (k : IntKind) (a b : Int) : Option AV :=
  match op with
  | .add => some (.int k (k.wrap (a + b)))
  | .sub => some (.int k (k.wrap (a - b)))
  | .mul => some (.int k (k.wrap (a * b)))
  | .quo => if b = 0 then none else some (.int k (k.wrap (a.tdiv b)))
  | .rem => if b = 0 then none else some (.int k (a.tmod b))
  | .and => some (.int k (bitsA .and k a b))
  | .or => some (.int k (bitsA .or k a b))
  | .xor => some (.int k (bitsA .xor k a b))
  | .andNot => some (.int k (bitsA .andNot k a b))
  | .eql => some (.bool (a == b))
  | .neq => some (.bool (a != b))
  | .lss => some (.bool (decide (a < b)))
  | .leq => some (.bool (decide (a ≤ b)))
  | .gtr => some (.bool (decide (a > b)))
  | .geq => some (.bool (decide (a ≥ b)))
  | _ => none
def intBin (op : BinOp) (k : IntKind) (a : Int) (k' : IntKind) (b : Int) : Option AV :=
  match op with
  | .shl => if b < 0 then none else some (.int k (shlA k a b.toNat))
  | .shr => if b < 0 then none else some (.int k (shrA k a b.toNat))
  | op => if k = k' then intA op k a b else none
def boolBin (i : Option TI) (op : BinOp) (a b : Bool) : Option AV :=
  match i with
  | some ⟨.bool, _, _, _⟩ => match op with
    | .eql => some (.bool (a == b))
    | .neq => some (.bool (!(a == b)))
    | _ => none
  | _ => none
def ifBin (i : Option TI) (op : BinOp) (r : Bool) : Option AV :=
  match i with
  | some ⟨.iface, _, _, _⟩ => match op with
    | .eql => some (.bool r)
    | .neq => some (.bool !r)
    | _ => none
  | _ => none
def nilBin (i : Option TI) (op : BinOp) (r : Bool) : Option AV :=
  match i with
  | some ⟨.slice .., _, _, _⟩ => match op with
    | .eql => some (.bool r)
    | .neq => some (.bool !r)
    | _ => none
  | _ => none
def aggBin (i : Option TI) (op : BinOp) (x y : AV) : Option AV :=
  match i with
  | some ⟨kd, n, _, true⟩ => if kd.agg ∧ width x = n ∧ width y = n then match op with
    | .eql => (eqA (items x) (items y)).map AV.bool
    | .neq => (eqA (items x) (items y)).map fun r => .bool !r
    | _ => none
    else none
  | _ => none
def isC : Operand → Bool
  | .const _ => true
  | _ => false
def binA (T : TT) (c : Bool) (op : BinOp) (t : TypeId) : AV → AV → Option AV
  | .int k a, .int k' b => intBin op k a k' b
  | .bool a, .bool b => boolBin (T t) op a b
  | .iface _ _, .nilif => ifBin (T t) op false
  | .nilif, .nilif => if c then ifBin (T t) op true else none
  | .slice .., .nilslice => if c then nilBin (T t) op false else none
  | .nilslice, .nilslice => if c then nilBin (T t) op true else none
  | .arr k n f, .arr k' n' g => aggBin (T t) op (.arr k n f) (.arr k' n' g)
  | .arr k n f, .agg l => aggBin (T t) op (.arr k n f) (.agg l)
  | .agg l, .arr k n f => aggBin (T t) op (.agg l) (.arr k n f)
  | .agg l, .agg m => aggBin (T t) op (.agg l) (.agg m)
  | _, _ => none
def unA : UnOp → AV → Option AV
  | .neg, .int k n => some (.int k (k.wrap (0 - n)))
  | .xor, .int k n => some (.int k (bitsA .xor k (if k.signed then -1 else k.max) n))
  | .not, .bool b => some (.bool !b)
  | _, _ => none
def fillA (place : Nat → Option (Nat × Nat)) : List AV → List (Nat × AV) → Option (List AV)
  | l, [] => some l
  | l, (i, v) :: rest =>
    match place i with
    | none => none
    | some (o, n) => if solid v && width v == n then match writeRow l o (items v) with
      | some l' => fillA place l' rest
      | none => none
      else none
def packI (l : List AV) : List AV :=
  match l with
  | .int k _ :: _ => match intsOf k l with
    | some xs => [.arr k xs.length fun i => xs.getD i 0]
    | none => l
  | l => l
def copies (n : Nat) (v : AV) : List AV :=
  match v with
  | .int k x => [.arr k n fun _ => x]
  | v => (List.replicate n (items v)).flatten
def loadB (i : TI) (blk : Blk) (o : Nat) : Option AV := match blk.items with
  | [.win _ _ _ k f S] => if covB S o i.size = true then (if i.kind.agg then some (asAgg [.arr k i.size fun j => f (o + j)]) else if i.size = 1 then some (.int k (f o)) else none) else none
  | l => if i.kind.agg then (readRow l o i.size).map asAgg else readCell l o
def loadA (T : TT) (mem : Mem) (t : TypeId) : AV → Option AV
  | .ptr b o => match T t, mem b with
    | some i, some blk => loadB i blk o
    | _, _ => none
  | _ => none
def sliceA (es cap : Nat) (b o : Nat) (l h : Int) : Option AV :=
  if 0 ≤ l ∧ l ≤ h ∧ h ≤ cap then some (.slice b (if (cap : Int) = l then o else o + l.toNat * es) (h.toNat - l.toNat) (cap - l.toNat)) else none
def opA (T : TT) (mem : Mem) (nxt : Nat) (ev : Operand → AV) : Op → OR
  | .move x | .assign x => .val (ev x) [] []
  | .pick c a b => match ev c with
    | .bool c => .val (pickA c (ev a) (ev b)) [] []
    | _ => .fail
  | .alloc e => match T e with
    | some i => .val (.ptr nxt 0) [] [⟨items i.zero, e⟩]
    | none => .fail
  | .box e x => if solid (ev x) then .val (.ptr nxt 0) [] [⟨items (ev x), e⟩] else .fail
  | .build t parts => match T t with
    | some ⟨.struct fs, _, z, _⟩ => match fillA (fun i => (fs[i]?).map fun f => (f.1, f.2.1)) (items z) (parts.toList.map fun p => (p.1, ev p.2)) with
      | some l => .val (asAgg l) [] []
      | none => .fail
    | some ⟨.array _ es _, _, z, _⟩ => match fillA (fun i => some (i * es, es)) (items z) (parts.toList.map fun p => (p.1, ev p.2)) with
      | some l => .val (asAgg l) [] []
      | none => .fail
    | _ => .fail
  | .buildSlice t n parts => match T t with
    | some ⟨.slice e es _ ez, _, _, _⟩ => if n * es ≤ 65536 ∧ 0 < es then match fillA (fun i => some (i * es, es)) (List.replicate n (items ez)).flatten (parts.toList.map fun p => (p.1, ev p.2)) with
      | some l => .val (.slice nxt 0 n n) [] [⟨packI l, e⟩]
      | none => .fail
      else .fail
    | _ => .fail
  | .load t a => match loadA T mem t (ev a) with
    | some v => .val v [] []
    | none => .fail
  | .store t a x => match ev a, T t with
    | .ptr b o, some i => match mem b with
      | some blk => if solid (ev x) && width (ev x) == i.size then match writeRow blk.items o (items (ev x)) with
        | some l => .val (.tup []) [(b, l)] []
        | none => .fail
        else .fail
      | none => .fail
    | _, _ => .fail
  | .nilCheck x => match ev x with
    | .ptr b o => .val (.ptr b o) [] []
    | .fn f cap => .val (.fn f cap) [] []
    | .mv f first => .val (.mv f first) [] []
    | _ => .fail
  | .binOp op t x y _ => match binA T (isC x || isC y) op t (ev x) (ev y) with
    | some v => .val v [] []
    | none => .fail
  | .unOp op _ x => match unA op (ev x) with
    | some v => .val v [] []
    | none => .fail
  | .convert s d x => match T s, T d, ev x with
    | some _, some ⟨.int k, _, _, _⟩, .int _ n => .val (.int k (k.wrap n)) [] []
    | _, _, _ => .fail
  | .makeInterface t x => match T t with
    | some ⟨.iface, _, _, _⟩ | some ⟨.other, _, _, _⟩ | none => .fail
    | some _ => if solid (ev x) then .val (.iface t (ev x)) [] [] else .fail
  | .makeFunc (.func f) first cap =>
    if first.isEmpty && solidL (cap.toList.map ev) then .val (.fn f (cap.toList.map ev)) [] []
    else if cap.isEmpty && solidL (first.toList.map ev) then .val (.mv f (first.toList.map ev)) [] [] else .fail
  | .makeSlice t l c => match T t, ev l, ev c with
    | some ⟨.slice e es eb ez, _, _, _⟩, .int _ n, .int _ m =>
      if 0 ≤ n ∧ n ≤ m ∧ m ≤ 68719476736 ∧ eb ≤ 256 ∧ 0 < es then .val (.slice nxt 0 n.toNat m.toNat) [] [⟨copies m.toNat ez, e⟩] else .fail
    | _, _, _ => .fail
  | .slice t x lo hi none => match T t, ev x, lo.map ev, hi.map ev with
    | some ⟨.slice _ es _ _, _, _, _⟩, .slice b o len cap, none, none => match sliceA es cap b o 0 len with | some v => .val v [] [] | none => .fail
    | some ⟨.slice _ es _ _, _, _, _⟩, .slice b o len cap, some (.int _ l), none => match sliceA es cap b o l len with | some v => .val v [] [] | none => .fail
    | some ⟨.slice _ es _ _, _, _, _⟩, .slice b o _ cap, none, some (.int _ h) => match sliceA es cap b o 0 h with | some v => .val v [] [] | none => .fail
    | some ⟨.slice _ es _ _, _, _, _⟩, .slice b o _ cap, some (.int _ l), some (.int _ h) => match sliceA es cap b o l h with | some v => .val v [] [] | none => .fail
    | some ⟨.array n es _, _, _, _⟩, .ptr b o, none, none => match sliceA es n b o 0 n with | some v => .val v [] [] | none => .fail
    | _, _, _, _ => .fail
  | .fieldAddr s x f => match T s, ev x with
    | some ⟨.struct fs, _, _, _⟩, .ptr b o => match fs[f]? with
      | some (off, n, _) => if n = 0 then .fail else .val (.ptr b (o + off)) [] []
      | none => .fail
    | _, _ => .fail
  | .field s x f => match T s with
    | some ⟨.struct fs, sz, _, _⟩ => match fs[f]?, ev x with
      | some (off, n, true), .agg l => if widthL l = sz then match readRow l off n with | some a => .val (asAgg a) [] [] | none => .fail else .fail
      | some (off, _, false), .agg l => if widthL l = sz then match readCell l off with | some a => .val a [] [] | none => .fail else .fail
      | some (off, n, true), .arr k m g => if m = sz then match readRow [.arr k m g] off n with | some a => .val (asAgg a) [] [] | none => .fail else .fail
      | _, _ => .fail
    | _ => .fail
  | .indexAddr t x ix => match T t, ev x, ev ix with
    | some ⟨.array n es _, _, _, _⟩, .ptr b o, .int _ i => if 0 ≤ i ∧ i < n then .val (.ptr b (o + i.toNat * es)) [] [] else .fail
    | some ⟨.slice _ es _ _, _, _, _⟩, .slice b o n _, .int _ i => if 0 ≤ i ∧ i < n then .val (.ptr b (o + i.toNat * es)) [] [] else .fail
    | _, _, _ => .fail
  | .index t x ix => match T t, ev ix with
    | some ⟨.array n es ea, _, _, _⟩, .int _ i => if 0 ≤ i ∧ i < n then match ea, ev x with
      | true, .agg l => match readRow l (i.toNat * es) es with | some a => .val (asAgg a) [] [] | none => .fail
      | false, .agg l => match readCell l (i.toNat * es) with | some a => .val a [] [] | none => .fail
      | false, .arr k m g => if i.toNat * es < m then .val (.int k (g (i.toNat * es))) [] [] else .fail
      | _, _ => .fail
      else .fail
    | _, _ => .fail
  | .extract x i => match ev x with
    | .tup l => match l[i]? with
      | some v => .val v [] []
      | none => .fail
    | _ => .fail
  | .typeAssert x _ t ok => match T t, ev x with
    | some ⟨.iface, _, _, _⟩, _ | some ⟨.other, _, _, _⟩, _ | none, _ => .fail
    | some i, .iface u v => if u = t then (if ok then .val (.tup [v, .bool true]) [] [] else .val v [] []) else (if ok then .val (.tup [i.zero, .bool false]) [] [] else .fail)
    | _, _ => .fail
  | .panic x => match ev x with
    | .iface t v => .pan (.iface t v) [] []
    | _ => .fail
  | .call { callee := .builtin .len, args, argTypes } => match argTypes[0]?.bind T, (args[0]?).map ev with
    | some ⟨.slice .., _, _, _⟩, some (.slice _ _ n _) => .val (.int .i64 n) [] []
    | some ⟨.slice .., _, _, _⟩, some .nilslice => .val (.int .i64 0) [] []
    | some ⟨.array n _ _, _, _, _⟩, some _ => .val (.int .i64 n) [] []
    | _, _ => .fail
  | .call { callee := .builtin .min, args, argTypes := _ } => match args.toList.map ev with
    | [.int k a, .int _ b] => .val (.int k (if b < a then b else a)) [] []
    | [.int k a, .int _ b, .int _ c] => let m := if b < a then b else a; .val (.int k (if c < m then c else m)) [] []
    | _ => .fail
  | .call { callee := .builtin .max, args, argTypes := _ } => match args.toList.map ev with
    | [.int k a, .int _ b] => .val (.int k (if b > a then b else a)) [] []
    | [.int k a, .int _ b, .int _ c] => let m := if b > a then b else a; .val (.int k (if c > m then c else m)) [] []
    | _ => .fail
  | _ => .fail
end Go.X
end

section
namespace Go.X
structure TIok (P : Program) (t : TypeId) (i : TI) : Prop where
  info : ∃ inf, P.info? t = some inf ∧ inf.size = i.size ∧ inf.zero = some (conc id i.zero)
  zero : refs i.zero = [] ∧ solid i.zero = true ∧ width i.zero = i.size
  und : ∃ d, P.underlying t = some d
  agg : isAggT P t = i.kind.agg
  kind : match i.kind with
    | .bool => P.underlying t = some .bool
    | .int k => P.underlying t = some (.int k)
    | .struct fs => ∃ flds, P.underlying t = some (.struct flds) ∧ fs = flds.toList.map (fun f => (f.offset, P.cellsOf f.type, isAggT P f.type)) ∧ ∀ f ∈ flds.toList, ∃ j d, P.info? f.type = some j ∧ P.underlying f.type = some d
    | .array n es ea => ∃ e, P.underlying t = some (.array n e) ∧ (∃ j d, P.info? e = some j ∧ j.size = es ∧ P.underlying e = some d) ∧ isAggT P e = ea
    | .slice e es eb ez => P.underlying t = some (.slice e) ∧ (∃ j, P.info? e = some j ∧ j.size = es ∧ j.bytes = eb ∧ j.zero = some (conc id ez)) ∧ refs ez = [] ∧ solid ez = true ∧ width ez = es
    | .ptr => ∃ e, P.underlying t = some (.pointer e)
    | .func => ∃ a b c, P.underlying t = some (.func a b c)
    | .iface => ∃ ms, P.underlying t = some (.interface ms)
    | .other => True
  eq : i.eq = true → P.eqGuardType P.depth t = false ∧ ∃ h, h ≤ 100 ∧ flat P h t = some i.size
def TOk (P : Program) (T : TT) : Prop := ∀ t i, T t = some i → TIok P t i
theorem conc_noref {v : AV} (h : refs v = []) (ρ σ : Nat → Nat) : conc ρ v = conc σ v := conc_congr v (by simp [h])
section
variable {P : Program} {D : Nat → Prop} {ρ0 ρ : Nat → Nat} {w0 w : World} {mem : Mem}
theorem Inv.cells (h : Inv D ρ0 w0 ρ mem w) {b o : Nat} {blk : Blk} (hb : mem b = some blk) (hw : isWin blk.items = false) (j : Nat) :
    w.cell? ((⟨ρ b, o, none⟩ : Addr).add j) = (concC ρ blk.items)[o + j]? := by
  rw [Addr.add_lit, World.cell?, h.row b blk hb, objOf_not hw]
  simp
theorem run_isAgg {t : TypeId} {d : TypeDesc} (hu : P.underlying t = some d) : (isAgg t).run P w = .ok (isAggT P t) w := by
  simp only [isAgg, isAggT, Sem.run_bind, run_underlying hu, Result.andThen_ok]
  cases d <;> simp [hu]
theorem run_sizeOf {t : TypeId} {j : TypeInfo} (hi : P.info? t = some j) : (sizeOf t).run P w = .ok j.size w := by
  simp [sizeOf, typeInfo, hi]
theorem load_ok {T : TT} (hT : TOk P T) (h : Inv D ρ0 w0 ρ mem w) {t : TypeId} {a v : AV} (hl : loadA T mem t a = some v) {x : Value} (hx : SR ρ mem a x) :
    (Instr.loadAt t x).run P w = .ok (conc ρ v) w ∧ okv v = true ∧ ∀ c ∈ refs v, mem c ≠ none := by
  cases a with
  | ptr b o =>
    simp only [loadA] at hl
    cases hi : T t with
    | none => simp [hi] at hl
    | some i =>
      cases hm : mem b with
      | none => simp [hi, hm] at hl
      | some blk =>
        simp only [hi, hm] at hl
        have ti := hT t i hi
        obtain ⟨inf, hinf, hsz, -⟩ := ti.info
        obtain ⟨rfl, -, -⟩ := hx.get (by simp)
        obtain ⟨hrf, hso⟩ := h.ref b blk hm
        obtain ⟨d, hd⟩ := ti.und
        simp only [Instr.loadAt, conc, Instr.sureAddr, Sem.run_bind, Sem.run_pure, Result.andThen_ok, loadVar, run_isAgg hd, ti.agg]
        cases hwin : isWin blk.items with
        | true =>
          obtain ⟨cs, t0, fr, k, f, S, hit⟩ : ∃ cs t0 fr k f S, blk.items = [.win cs t0 fr k f S] := by
            unfold isWin at hwin
            split at hwin
            · rename_i cs t0 fr k f S e; exact ⟨cs, t0, fr, k, f, S, e⟩
            · simp at hwin
          have hrow := h.row b blk hm
          unfold objOf at hrow
          unfold SolidB at hso
          unfold loadB at hl
          rw [hit] at hrow hso hl
          simp only at hrow hso hl
          have hcell : ∀ j, S (o + j) = true → w.cell? ((⟨ρ b, o, none⟩ : Addr).add j) = some (.int k (f (o + j))) := by
            intro j hj
            rw [Addr.add_lit, World.cell?, hrow]
            simpa using hso _ hj
          split at hl
          · rename_i hcov
            by_cases hag : i.kind.agg = true
            · rw [if_pos hag] at hl
              simp only [Option.some.injEq] at hl
              subst hl
              have hc := run_loadCells (P := P) w ⟨ρ b, o, none⟩ i.size (fun j => .int k (f (o + j))) (fun j hj => hcell j (covB_get hcov hj))
              simp only [hag, if_true, Sem.run_bind, run_sizeOf hinf, hsz, Result.andThen_ok, hc, Sem.run_pure, conc_asAgg]
              refine ⟨by simp [concC, conc, Value.cells, arrCells], ?_, ?_⟩
              · apply okv_of_solid; rw [solid_asAgg]; rfl
              · rw [refs_asAgg]; simp [refsL, refs]
            · rw [if_neg hag] at hl
              split at hl
              · rename_i h1
                simp only [Option.some.injEq] at hl
                subst hl
                rw [h1] at hcov
                have hc := hcell 0 (covB_get hcov (by omega))
                rw [Addr.add_zero', Nat.add_zero] at hc
                simp only [hag, if_false, Bool.false_eq_true, run_load, hc]
                exact ⟨rfl, rfl, by simp [refs]⟩
              · simp at hl
          · simp at hl
        | false =>
        replace hso := hso.of hwin
        replace hl : (if i.kind.agg then (readRow blk.items o i.size).map asAgg else readCell blk.items o) = some v := by
          unfold loadB at hl
          split at hl
          · rename_i e; rw [e] at hwin; simp [isWin] at hwin
          · exact hl
        by_cases hag : i.kind.agg = true
        · rw [if_pos hag] at hl
          cases hr : readRow blk.items o i.size with
          | none => simp [hr] at hl
          | some l =>
            simp only [hr, Option.map_some, Option.some.injEq] at hl
            subst hl
            obtain ⟨r1, r2, r3, r4⟩ := readRow_spec hr
            obtain ⟨p, q, hpq, hp⟩ := r1 ρ
            have hc := run_loadCells (P := P) w ⟨ρ b, o, none⟩ i.size (fun j => (concC ρ l).getD j Go.undef) (fun j hj => by
              rw [h.cells hm hwin, hpq, List.append_assoc, List.getElem?_append_right (by omega), List.getElem?_append_left (by rw [length_concC, r2]; omega)]
              rw [show o + j - p.length = j from by omega]
              have : j < (concC ρ l).length := by rw [length_concC, r2]; exact hj
              simp [this])
            have he : (List.range i.size).map (fun j => (concC ρ l).getD j Go.undef) = concC ρ l := by
              apply List.ext_getElem
              · simp [length_concC, r2]
              · intro j h1 h2; simp [h2]
            rw [he] at hc
            simp only [hag, if_true, Sem.run_bind, run_sizeOf hinf, hsz, Result.andThen_ok, hc, Sem.run_pure, conc_asAgg]
            refine ⟨trivial, ?_, ?_⟩
            · apply okv_of_solid; rw [solid_asAgg]; exact r4 hso
            · rw [refs_asAgg]; exact fun c hc => hrf c (r3 c hc)
        · rw [if_neg hag] at hl
          obtain ⟨r1, r2, r3⟩ := readCell_spec hl
          have hc := h.cells (o := o) hm hwin 0
          rw [Addr.add_zero', Nat.add_zero, r1 ρ] at hc
          simp only [hag, if_false, Bool.false_eq_true, run_load, hc]
          exact ⟨trivial, okv_of_solid (r3 hso), fun c hc => hrf c (r2 c hc)⟩
  | _ => simp [loadA] at hl
theorem store_ok {T : TT} (hT : TOk P T) (h : Inv D ρ0 w0 ρ mem w) {t : TypeId} {i : TI} (hi : T t = some i) {b o : Nat} {blk : Blk} (hm : mem b = some blk) {v : AV} (hs : solid v = true) (hw : width v = i.size)
    {l : List AV} (hl : writeRow blk.items o (items v) = some l) (hr : ∀ c ∈ refs v, mem c ≠ none) :
    (Instr.storeAt t (.pointer (some ⟨ρ b, o, none⟩)) (conc ρ v)).run P w = .ok () (w.setRow (ρ b) (concC ρ l).toArray) ∧
      Inv D ρ0 w0 ρ (memUp mem [(b, l)]) (w.setRow (ρ b) (concC ρ l).toArray) ∧ Later ρ mem ρ (memUp mem [(b, l)]) := by
  obtain ⟨inf, hinf, hsz, -⟩ := (hT t i hi).info
  obtain ⟨s1, s2, s3, s4⟩ := writeRow_spec hl
  have hwin := writeRow_win hl
  obtain ⟨hrf, hso⟩ := h.ref b blk hm
  replace hso := hso.of hwin
  have hrow := h.row b blk hm
  rw [objOf_not hwin] at hrow
  have hlen : (conc ρ v).cells.size = i.size := by rw [← Array.length_toList, length_cells, hw]
  have hc1 : ∀ c ∈ (conc ρ v).cells.toList, c.oneCell' = true := solid_cells ρ v hs
  have hst := run_storeCells_at (P := P) (ρ b) o blk.ty (conc ρ v).cells.toList 0 (concC ρ blk.items).toArray w hrow (by
    simp only [List.size_toArray, length_concC, length_cells]; rw [widthL_items] at s2; omega) hc1
  have e : (concC ρ l).toArray = (((concC ρ blk.items).toArray.toList.take (o + 0) ++ (conc ρ v).cells.toList ++ (concC ρ blk.items).toArray.toList.drop (o + 0 + (conc ρ v).cells.toList.length))).toArray := by
    rw [s1 ρ, concC_items]; simp
  rw [← e] at hst
  refine ⟨?_, h.put hm hwin (s4 hso (by rw [solidL_items]; exact hs)) (fun c hc => ?_)⟩
  · simp only [Instr.storeAt, Instr.sureAddr, Sem.run_bind, Sem.run_pure, Result.andThen_ok, storeVar, run_sizeOf hinf, hsz, hlen, ne_eq, not_true_eq_false, if_false]
    exact hst
  · rcases s3 c hc with hc | hc
    · exact hrf c hc
    · exact hr c (by rwa [refsL_items] at hc)
theorem new_ok (h : Inv D ρ0 w0 ρ mem w) {n : Nat} (hn : mem n = none) (t : TypeId) {l : List AV} (hl : solidL l = true) (hr : ∀ c ∈ refsL l, mem c ≠ none) {cells : Array Value} (hc : cells = (concC ρ l).toArray) :
    ∃ w' ρ', (newRow t cells).run P w = .ok ⟨ρ' n, 0, none⟩ w' ∧ Inv D ρ0 w0 ρ' (memNew mem n [⟨l, t⟩]) w' ∧ Later ρ mem ρ' (memNew mem n [⟨l, t⟩]) ∧ memNew mem n [⟨l, t⟩] n ≠ none := by
  obtain ⟨ρ', h1, h2, h3⟩ := h.alloc hn t hl hr
  refine ⟨_, ρ', ?_, h1, h2, by simp [memNew]⟩
  simp [newRow, h3, hc]
theorem foldl_put (off : Nat) : ∀ (vs : List Value) (j : Nat) (cells : Array Value), off + j + vs.length ≤ cells.size →
    ((vs.zipIdx j).foldl (fun cs (c, i) => cs.setIfInBounds (off + i) c) cells).toList = cells.toList.take (off + j) ++ vs ++ cells.toList.drop (off + j + vs.length)
  | [], j, cells, _ => by simp
  | v :: vs, j, cells, h => by
    simp only [List.zipIdx_cons, List.foldl_cons]
    simp only [List.length_cons] at h
    rw [foldl_put off vs (j + 1) _ (by simp; omega)]
    rw [Array.toList_setIfInBounds]
    have hs := list_seg_step cells.toList (off + j) v vs (by simp; omega)
    rw [show off + (j + 1) = off + j + 1 from by omega, hs]
    simp only [List.length_cons]
theorem fill_ok {placeA : Nat → Option (Nat × Nat)} : ∀ {parts : List (Nat × AV)} {l l' : List AV}, fillA placeA l parts = some l' → solidL l = true → (∀ p ∈ parts, ∀ c ∈ refs p.2, mem c ≠ none) → (∀ c ∈ refsL l, mem c ≠ none) →
    Instr.fill placeA (concC ρ l).toArray (parts.map fun p => (p.1, conc ρ p.2)) = some (concC ρ l').toArray ∧ solidL l' = true ∧ (∀ c ∈ refsL l', mem c ≠ none) ∧ widthL l' = widthL l
  | [], l, l', h, hl, _, hr => by
    simp only [fillA, Option.some.injEq] at h
    subst h
    exact ⟨rfl, hl, hr, rfl⟩
  | (i, v) :: parts, l, l', h, hl, hp, hr => by
    simp only [fillA] at h
    cases hpl : placeA i with
    | none => simp [hpl] at h
    | some on =>
      obtain ⟨o, n⟩ := on
      simp only [hpl] at h
      by_cases hc : (solid v && width v == n) = true
      · rw [if_pos hc] at h
        simp only [Bool.and_eq_true, beq_iff_eq] at hc
        cases hw : writeRow l o (items v) with
        | none => simp [hw] at h
        | some m =>
          simp only [hw] at h
          obtain ⟨s1, s2, s3, s4⟩ := writeRow_spec hw
          have hm : widthL m = widthL l := by
            have := congrArg List.length (s1 id)
            simp only [List.length_append, List.length_take, List.length_drop, length_concC] at this
            omega
          obtain ⟨f1, f2, f3, f4⟩ := fill_ok h (s4 hl (by rw [solidL_items]; exact hc.1)) (fun p hp' => hp p (by simp [hp'])) (fun c hc' => by
            rcases s3 c hc' with hc' | hc'
            · exact hr c hc'
            · exact hp (i, v) (by simp) c (by rwa [refsL_items] at hc'))
          refine ⟨?_, f2, f3, f4.trans hm⟩
          simp only [List.map_cons, Instr.fill, hpl]
          have hsz : (conc ρ v).cells.size = n := by rw [← Array.length_toList, length_cells, hc.2]
          have h2 : o + width v ≤ widthL l := by rw [← widthL_items v]; exact s2
          rw [if_neg (by simp [hsz, length_concC]; omega)]
          rw [← f1]
          congr 1
          apply Array.toList_inj.1
          have hz : (conc ρ v).cells.zipIdx.toList = (conc ρ v).cells.toList.zipIdx 0 := by simp
          rw [← Array.foldl_toList, hz, foldl_put o _ 0 _ (by simp only [Array.length_toList, hsz, List.size_toArray, length_concC]; omega)]
          rw [s1 ρ, concC_items]
          simp
      · rw [if_neg hc] at h; simp at h
end
end Go.X
end

section
namespace Go.X
theorem alike_cons {x y : Value} {l m : List Value} (h : alike (x :: l) (y :: m) = true) : ∃ k a b, x = .int k a ∧ y = .int k b ∧ alike l m = true := by
  cases x <;> cases y <;> simp [alike] at h
  exact ⟨_, _, _, by rw [h.1], rfl, h.2⟩
theorem alike_length : ∀ {l m : List Value}, alike l m = true → l.length = m.length
  | [], [], _ => rfl
  | x :: l, y :: m, h => by obtain ⟨k, a, b, rfl, rfl, h'⟩ := alike_cons h; simp [alike_length h']
  | [], y :: _, h | y :: _, [], h => by cases y <;> simp [alike] at h
theorem alike_append : ∀ {a b c d : List Value}, a.length = c.length → (alike (a ++ b) (c ++ d) = (alike a c && alike b d)) ∧ (alike a c = true → cellsEq (a ++ b) (c ++ d) = (cellsEq a c && cellsEq b d))
  | [], b, [], d, _ => by simp [alike, cellsEq]
  | x :: a, b, y :: c, d, h => by
    obtain ⟨h1, h2⟩ := alike_append (a := a) (b := b) (c := c) (d := d) (by simpa using h)
    cases x <;> cases y <;> simp [alike, cellsEq]
    rw [h1]
    refine ⟨by rw [Bool.and_assoc], fun _ hl => by rw [h2 hl, Bool.and_assoc]⟩
theorem alike_split {l m : List Value} {n : Nat} (h : alike l m = true) : alike (l.take n) (m.take n) = true ∧ alike (l.drop n) (m.drop n) = true ∧ cellsEq l m = (cellsEq (l.take n) (m.take n) && cellsEq (l.drop n) (m.drop n)) := by
  have hl := alike_length h
  have e1 := (List.take_append_drop n l).symm
  have e2 := (List.take_append_drop n m).symm
  obtain ⟨h1, h2⟩ := alike_append (a := l.take n) (b := l.drop n) (c := m.take n) (d := m.drop n) (by simp [hl])
  rw [← e1, ← e2, h] at h1
  have h1' := h1.symm
  simp only [Bool.and_eq_true] at h1'
  refine ⟨h1'.1, h1'.2, ?_⟩
  have := h2 h1'.1
  rwa [← e1, ← e2] at this
def mkV (P : Program) (t : TypeId) (l : List Value) : Value := if isAggT P t then .agg l.toArray else l.headD Go.undef
section
variable {P : Program} {w : World}
theorem run_part_mk {t : TypeId} {j : TypeInfo} {d : TypeDesc} (hd : P.underlying t = some d) (hj : P.info? t = some j) {xs : List Value} {o : Nat} (hlen : o + j.size ≤ xs.length) (h1 : isAggT P t = false → j.size = 1) :
    (part t xs.toArray o).run P w = .ok (mkV P t ((xs.drop o).take j.size)) w := by
  simp only [part, Sem.run_bind, run_isAgg hd, Result.andThen_ok]
  by_cases h : isAggT P t = true
  · simp only [h, if_true, Sem.run_bind, run_sizeOf hj, Result.andThen_ok, Sem.run_pure, mkV]
    congr 2
    apply Array.toList_inj.1
    simp
  · have hs := h1 (by simpa using h)
    simp only [h, Bool.false_eq_true, if_false, mkV]
    have ho : o < xs.length := by omega
    simp only [List.getElem?_toArray, List.getElem?_eq_getElem ho, Sem.run_pure, hs, List.drop_eq_getElem_cons ho]
    rfl
theorem flatFs_mono (g : TypeId → Option Nat) : ∀ (fs : List Field) (o n : Nat), flatFs P g fs o = some n → o ≤ n
  | [], o, n, h => by simp only [flatFs, Option.some.injEq] at h; omega
  | f :: fs, o, n, h => by
    simp only [flatFs] at h
    split at h
    · simp at h
    · split at h
      · split at h
        · have := flatFs_mono g fs _ _ h; omega
        · simp at h
      · simp at h
theorem flat_agg : ∀ {h : Nat} {t : TypeId} {n : Nat}, flat P h t = some n → (isAggT P t = false → n = 1) ∧ ∃ d, P.underlying t = some d
  | 0, t, n, h => by simp [flat] at h
  | h + 1, t, n, hf => by
    simp only [flat] at hf
    split at hf
    · rename_i k hu
      simp only [Option.some.injEq] at hf
      exact ⟨fun _ => hf.symm, _, hu⟩
    · rename_i fs hu
      exact ⟨fun ha => by simp [isAggT, hu] at ha, _, hu⟩
    · rename_i m e hu
      exact ⟨fun ha => by simp [isAggT, hu] at ha, _, hu⟩
    · simp at hf
theorem equalIn_flat : ∀ (h : Nat) (t : TypeId) (n : Nat), flat P h t = some n → ∀ (d : Nat) (xs ys : List Value), h ≤ d → xs.length = n → alike xs ys = true →
    (Op.equalIn d t (mkV P t xs) (mkV P t ys)).run P w = .ok (cellsEq xs ys) w
  | 0, t, n, hf, _, _, _, _, _, _ => by simp [flat] at hf
  | h + 1, t, n, hf, d, xs, ys, hd, hx, hal => by
    obtain ⟨d, rfl⟩ : ∃ e, d = e + 1 := ⟨d - 1, by omega⟩
    have ihs := equalIn_flat h
    simp only [flat] at hf
    split at hf
    · rename_i k hu
      simp only [Option.some.injEq] at hf
      subst hf
      have ha : isAggT P t = false := by simp [isAggT, hu]
      match xs, ys, hx, hal with
      | [x], [y], _, hal =>
        obtain ⟨k', a, b, rfl, rfl, -⟩ := alike_cons hal
        simp only [mkV, ha, Bool.false_eq_true, if_false, List.headD_cons, cellsEq, Bool.and_true]
        exact run_equalIn_int w d t k' k a b hu
      | [x], [], _, hal => simp [alike] at hal
      | [x], _ :: _ :: _, _, hal => have := alike_length hal; simp at this
    · rename_i fs hu
      split at hf
      · simp at hf
      · rename_i hst
        have ha : isAggT P t = true := by simp [isAggT, hu]
        have hfo : P.fieldsOf t = fs := by simp [Program.fieldsOf, hu]
        simp only [mkV, ha, if_true]
        rw [run_equalIn_struct w d t xs.toArray ys.toArray (by rw [hfo]; exact hu) (by simpa using hst), hfo]
        have key : ∀ (l : List Field) (o : Nat), flatFs P (flat P h) l o = some n → o ≤ n → (Op.eqFields d xs.toArray ys.toArray l).run P w = .ok (cellsEq (xs.drop o) (ys.drop o)) w := by
          intro l
          induction l with
          | nil =>
            intro o ho _
            simp only [flatFs, Option.some.injEq] at ho
            have hy := alike_length hal
            rw [List.drop_of_length_le (by omega), List.drop_of_length_le (by omega)]
            simp [Op.eqFields, cellsEq]
          | cons f l ih =>
            intro o ho hon
            simp only [flatFs] at ho
            split at ho
            · simp at ho
            · rename_i hn
              simp only [not_or, Decidable.not_not] at hn
              split at ho
              · rename_i m j hm hj
                split at ho
                · rename_i hjs
                  have hmn := flatFs_mono _ _ _ _ ho
                  obtain ⟨g1, df, hdf⟩ := flat_agg hm
                  have hy := alike_length hal
                  have p1 := run_part_mk (w := w) (xs := xs) (o := o) hdf hj (by omega) (fun e => by rw [hjs]; exact g1 e)
                  have p2 := run_part_mk (w := w) (xs := ys) (o := o) hdf hj (by omega) (fun e => by rw [hjs]; exact g1 e)
                  have hal2 := (alike_split (n := o) hal).2.1
                  obtain ⟨q1, q2, q3⟩ := alike_split (n := m) hal2
                  have ihh := ihs f.type m hm d ((xs.drop o).take m) ((ys.drop o).take m) (by omega) (by simp; omega) q1
                  rw [hjs] at p1 p2
                  simp only [Op.eqFields, hn.1, hn.2, ne_eq, not_false_eq_true, if_true, Sem.run_bind, p1, p2, ihh, Result.andThen_ok]
                  rw [q3]
                  cases hc : cellsEq ((xs.drop o).take m) ((ys.drop o).take m) with
                  | false => simp
                  | true => simp only [Bool.not_true, Bool.false_eq_true, if_false, Bool.true_and]; rw [ih (o + m) ho hmn]; simp [List.drop_drop]
                · simp at ho
              · simp at ho
        have := key fs.toList 0 hf (Nat.zero_le _)
        simpa using this
    · rename_i m e hu
      split at hf
      · rename_i k j hk hj
        split at hf
        · rename_i hjs
          simp only [Option.some.injEq] at hf
          have ha : isAggT P t = true := by simp [isAggT, hu]
          simp only [mkV, ha, if_true]
          rw [run_equalIn_array w d xs.toArray ys.toArray hu hj]
          have hck : P.cellsOf e = k := by simp [Program.cellsOf, hj, hjs]
          obtain ⟨g1, df, hdf⟩ := flat_agg hk
          have hy := alike_length hal
          rw [hck]
          have key : ∀ (c i : Nat), i + c = m → (Op.eqItems d e k xs.toArray ys.toArray (List.range' i c)).run P w = .ok (cellsEq (xs.drop (i * k)) (ys.drop (i * k))) w := by
            intro c
            induction c with
            | zero =>
              intro i hi
              have : i = m := by omega
              subst this
              rw [List.drop_of_length_le (by omega), List.drop_of_length_le (by omega)]
              simp [Op.eqItems, cellsEq]
            | succ c ih =>
              intro i hi
              have hb : i * k + k ≤ n := by
                rw [← hf, ← Nat.succ_mul]; exact Nat.mul_le_mul_right _ (by omega)
              have p1 := run_part_mk (w := w) (xs := xs) (o := i * k) hdf hj (by omega) (fun e => by rw [hjs]; exact g1 e)
              have p2 := run_part_mk (w := w) (xs := ys) (o := i * k) hdf hj (by omega) (fun e => by rw [hjs]; exact g1 e)
              have hal2 := (alike_split (n := i * k) hal).2.1
              obtain ⟨q1, q2, q3⟩ := alike_split (n := k) hal2
              have ihh := ihs e k hk d ((xs.drop (i * k)).take k) ((ys.drop (i * k)).take k) (by omega) (by simp; omega) q1
              rw [hjs] at p1 p2
              simp only [List.range'_succ, Op.eqItems, Sem.run_bind, p1, p2, ihh, Result.andThen_ok]
              rw [q3]
              cases hc : cellsEq ((xs.drop (i * k)).take k) ((ys.drop (i * k)).take k) with
              | false => simp
              | true =>
                simp only [Bool.not_true, Bool.false_eq_true, if_false, Bool.true_and]
                rw [ih (i + 1) (by omega)]
                simp [List.drop_drop, Nat.succ_mul]
          have := key m 0 (by omega)
          rw [List.range_eq_range']
          simpa using this
        · simp at hf
      · simp at hf
    · simp at hf
end
theorem concC_flatI (ρ : Nat → Nat) : ∀ l : List AV, concC ρ (flatI l) = concC ρ l
  | [] => rfl
  | v :: l => by
    have ih := concC_flatI ρ l
    cases v <;> simp only [flatI, concC, ih]
    rw [concC_append, concC_explode, ih]
    rfl
theorem eqArr_spec (k : IntKind) (n : Nat) (f g : Nat → Int) : alike (arrCells k n f) (arrCells k n g) = true ∧ cellsEq (arrCells k n f) (arrCells k n g) = eqArr n f g := by
  unfold arrCells eqArr
  generalize List.range n = l
  induction l with
  | nil => simp [alike, cellsEq]
  | cons i l ih => simp [alike, cellsEq, ih.1, ih.2]
theorem eqItems_spec (ρ : Nat → Nat) : ∀ {l m : List AV} {r : Bool}, eqItems l m = some r → alike (concC ρ l) (concC ρ m) = true ∧ cellsEq (concC ρ l) (concC ρ m) = r
  | [], [], r, h => by simp only [eqItems, Option.some.injEq] at h; subst h; simp [concC, alike, cellsEq]
  | v :: l, u :: m, r, h => by
    cases v <;> cases u <;> simp only [eqItems] at h <;> first
      | (simp at h; done)
      | (split at h
         · rename_i hk
           cases hr : eqItems l m with
           | none => simp [hr] at h
           | some q =>
             simp only [hr, Option.map_some, Option.some.injEq] at h
             subst h
             obtain ⟨h1, h2⟩ := eqItems_spec ρ hr
             first
               | (subst hk; simp only [concC, conc, Value.cells, List.cons_append, List.nil_append, alike, cellsEq, h1, h2]; simp; done)
               | (obtain ⟨rfl, rfl⟩ := hk
                  rename_i k n f g
                  obtain ⟨e1, e2⟩ := eqArr_spec k n f g
                  obtain ⟨a1, a2⟩ := alike_append (a := arrCells k n f) (b := concC ρ l) (c := arrCells k n g) (d := concC ρ m) (by simp [arrCells])
                  simp only [concC, conc, Value.cells]
                  rw [a1, a2 e1, e1, h1, h2, e2]; simp)
         · simp at h)
  | [], _ :: _, r, h | _ :: _, [], r, h => by simp [eqItems] at h
theorem eqA_spec (ρ : Nat → Nat) {l m : List AV} {r : Bool} (h : eqA l m = some r) : alike (concC ρ l) (concC ρ m) = true ∧ cellsEq (concC ρ l) (concC ρ m) = r := by
  unfold eqA at h
  split at h
  · rename_i q hq
    simp only [Option.some.injEq] at h
    subst h
    exact eqItems_spec ρ hq
  · have := eqItems_spec ρ h
    rwa [concC_flatI, concC_flatI] at this
end Go.X
end

section
namespace Go.X
section
variable {P : Program} {D : Nat → Prop} {ρ0 ρ : Nat → Nat} {w0 w : World} {mem : Mem}
def Came (P : Program) (D : Nat → Prop) (ρ0 : Nat → Nat) (w0 : World) (ρ : Nat → Nat) (mem mem' : Mem) (v : AV) (s : Sem Next) (w : World) : Prop :=
  ∃ nx w' ρ' x, s.run P w = .ok nx w' ∧ (nx = .value x ∨ (nx = .skip ∧ x = Go.undef)) ∧ SR ρ' mem' v x ∧ Inv D ρ0 w0 ρ' mem' w' ∧ Later ρ mem ρ' mem'
theorem came_pure (h : Inv D ρ0 w0 ρ mem w) {v : AV} {s : Sem Next} (hr : s.run P w = .ok (.value (conc ρ v)) w) (hv : okv v = true) (hc : ∀ c ∈ refs v, mem c ≠ none) :
    Came P D ρ0 w0 ρ mem mem v s w := ⟨_, w, ρ, _, hr, .inl rfl, .inr ⟨rfl, hv, hc⟩, h, Later.refl _ _⟩
theorem run_v {s : Sem Value} {x : Value} {w w' : World} (h : s.run P w = .ok x w') : (do pure (Next.value (← s)) : Sem Next).run P w = .ok (.value x) w' := by
  simp [h]
theorem run_intA {op : BinOp} {k : IntKind} {a b : Int} {v : AV} (h : intA op k a b = some v) (t : TypeId) : (binOp op t (.int k a) (.int k b)).run P w = .ok (conc ρ v) w ∧ okv v = true ∧ refs v = [] := by
  cases op <;> simp only [intA] at h <;> first
    | (simp at h; done)
    | (simp only [Option.some.injEq] at h; subst h; exact ⟨by simp [binOp, Op.intArith, Op.intBits, Op.intCmp, conc, bitsA], rfl, rfl⟩)
    | (split at h
       · simp at h
       · rename_i hb
         simp only [Option.some.injEq] at h; subst h; exact ⟨by simp [binOp, Op.intDiv, hb, conc], rfl, rfl⟩)
theorem run_intBin {op : BinOp} {k k' : IntKind} {a b : Int} {v : AV} (h : intBin op k a k' b = some v) (t : TypeId) : (binOp op t (.int k a) (.int k' b)).run P w = .ok (conc ρ v) w ∧ okv v = true ∧ refs v = [] := by
  unfold intBin at h
  split at h
  · split at h
    · simp at h
    · rename_i hb
      simp only [Option.some.injEq] at h; subst h
      exact ⟨by simp [binOp, Op.shift, hb, conc, shlA], rfl, rfl⟩
  · split at h
    · simp at h
    · rename_i hb
      simp only [Option.some.injEq] at h; subst h
      exact ⟨by simp [binOp, Op.shift, hb, conc, shrA], rfl, rfl⟩
  · split at h
    · rename_i hk
      subst hk
      exact run_intA h t
    · simp at h
theorem run_aggBin {T : TT} (hT : TOk P T) {op : BinOp} {t : TypeId} (x y : Operand) {a b v : AV} {xs ys : Array Value} (h : aggBin (T t) op a b = some v)
    (ha : xs.toList = concC ρ (items a)) (hb : ys.toList = concC ρ (items b)) :
    (do eqGuard op t x y (.agg xs) (.agg ys); binOp op t (.agg xs) (.agg ys) : Sem Value).run P w = .ok (conc ρ v) w ∧ okv v = true ∧ refs v = [] := by
  unfold aggBin at h
  split at h
  · rename_i kd n z hti
    split at h
    · rename_i hw
      have ti := hT t _ hti
      obtain ⟨he, hh, hle, hfl⟩ := ti.eq rfl
      simp only at hfl
      have hguard := run_eqGuard_agg w op t x y xs ys he
      have hag : isAggT P t = true := by rw [ti.agg]; exact hw.1
      have main : ∀ r, eqA (items a) (items b) = some r → (Op.equalIn 10000 t (.agg xs) (.agg ys)).run P w = .ok r w := by
        intro r hr
        obtain ⟨e1, e2⟩ := eqA_spec ρ hr
        have hlen : (concC ρ (items a)).length = n := by rw [length_concC, widthL_items]; exact hw.2.1
        have hmk := equalIn_flat (w := w) hh t n hfl 10000 _ _ (by omega) hlen e1
        rw [e2] at hmk
        simp only [mkV, hag, if_true, ← ha, ← hb] at hmk
        simpa using hmk
      split at h <;> first
        | (simp at h; done)
        | (cases hr : eqA (items a) (items b) with
           | none => simp [hr] at h
           | some r =>
             simp only [hr, Option.map_some, Option.some.injEq] at h
             subst h
             refine ⟨?_, rfl, rfl⟩
             simp only [Sem.run_bind, hguard, Result.andThen_ok, run_eql_struct, run_neq_struct, main r hr, conc])
    · simp at h
  · simp at h
theorem run_equalIn_iface_nil (d : Nat) {t : TypeId} {ms : Array (String × TypeId)} (hu : P.underlying t = some (.interface ms)) (u : TypeId) (x : Value) : (Op.equalIn (d + 1) t (.iface u x) .nilIface).run P w = .ok false w := by
  simp [Op.equalIn, run_underlying hu]
theorem run_equalIn_nil_nil (d : Nat) {t : TypeId} {ms : Array (String × TypeId)} (hu : P.underlying t = some (.interface ms)) : (Op.equalIn (d + 1) t .nilIface .nilIface).run P w = .ok true w := by
  simp [Op.equalIn, run_underlying hu]
theorem run_equalIn_slice_nil (d : Nat) {t e : TypeId} (hu : P.underlying t = some (.slice e)) (a : Addr) (n c : Nat) : (Op.equalIn (d + 1) t (.slice (some a) n c) (.slice none 0 0)).run P w = .ok false w := by
  simp [Op.equalIn, run_underlying hu]
theorem run_equalIn_nilslice (d : Nat) {t e : TypeId} (hu : P.underlying t = some (.slice e)) : (Op.equalIn (d + 1) t (.slice none 0 0) (.slice none 0 0)).run P w = .ok true w := by
  simp [Op.equalIn, run_underlying hu]
theorem run_binA {T : TT} (hT : TOk P T) {op : BinOp} {t : TypeId} (x y : Operand) {a b v : AV} (h : binA T (isC x || isC y) op t a b = some v) :
    (do eqGuard op t x y (conc ρ a) (conc ρ b); binOp op t (conc ρ a) (conc ρ b) : Sem Value).run P w = .ok (conc ρ v) w ∧ okv v = true ∧ refs v = [] := by
  unfold binA at h
  split at h
  · have := run_intBin (P := P) (w := w) (ρ := ρ) h t
    refine ⟨?_, this.2⟩
    simp only [conc, eqGuard_at_int, Sem.run_bind, Sem.run_pure, Result.andThen_ok]
    exact this.1
  · rename_i a b
    unfold boolBin at h
    split at h
    · rename_i n z e hti
      have hu := (hT t _ hti).kind
      simp only at hu
      simp only [conc, eqGuard_at_bool]
      split at h <;> first
        | (simp at h; done)
        | (simp only [Option.some.injEq] at h; subst h
           refine ⟨?_, rfl, rfl⟩
           simp [binOp, Op.equal, Op.maxDepth, run_equalIn_bool w 9999 t a b hu, conc])
    · simp at h
  · rename_i u q
    unfold ifBin at h
    split at h
    · rename_i n z e hti
      obtain ⟨ms, hu⟩ := (hT t _ hti).kind
      simp only [conc, eqGuard_at_iface]
      split at h <;> first
        | (simp at h; done)
        | (simp only [Option.some.injEq] at h; subst h
           refine ⟨?_, rfl, rfl⟩
           have key : (Op.equalIn 10000 t (.iface u (conc ρ q)) .nilIface).run P w = .ok false w := run_equalIn_iface_nil 9999 hu u (conc ρ q)
           simp only [binOp, Op.equal, Op.maxDepth, Sem.run_bind, Sem.run_pure, Result.andThen_ok, key, conc, Bool.not_false])
    · simp at h
  · split at h
    · rename_i hc
      unfold ifBin at h
      split at h
      · rename_i n z e hti
        obtain ⟨ms, hu⟩ := (hT t _ hti).kind
        have hg : ∀ op, eqGuard op t x y .nilIface .nilIface = pure () := by
          intro op
          simp only [Bool.or_eq_true] at hc
          rcases hc with hc | hc
          · cases x <;> simp [isC] at hc
            cases op <;> simp [eqGuard]
          · cases y <;> simp [isC] at hc
            cases op <;> simp [eqGuard]
        simp only [conc, hg]
        split at h <;> first
          | (simp at h; done)
          | (simp only [Option.some.injEq] at h; subst h
             refine ⟨?_, rfl, rfl⟩
             have key : (Op.equalIn 10000 t .nilIface .nilIface).run P w = .ok true w := run_equalIn_nil_nil 9999 hu
             simp only [binOp, Op.equal, Op.maxDepth, Sem.run_bind, Sem.run_pure, Result.andThen_ok, key, conc])
      · simp at h
    · simp at h
  · rename_i b0 o0 n0 c0
    split at h
    · rename_i hc
      unfold nilBin at h
      split at h
      · rename_i hti
        obtain ⟨hu, -⟩ := (hT t _ hti).kind
        have hg : ∀ op (s1 s2 : Option Addr) (n1 c1 n2 c2 : Nat), eqGuard op t x y (.slice s1 n1 c1) (.slice s2 n2 c2) = pure () := by
          intro op s1 s2 n1 c1 n2 c2
          simp only [Bool.or_eq_true] at hc
          rcases hc with hc | hc
          · cases x <;> simp [isC] at hc
            cases op <;> simp [eqGuard]
          · cases y <;> simp [isC] at hc
            cases op <;> simp [eqGuard]
        simp only [conc, hg]
        split at h <;> first
          | (simp at h; done)
          | (simp only [Option.some.injEq] at h; subst h
             refine ⟨?_, rfl, rfl⟩
             have key : (Op.equalIn 10000 t (conc ρ (.slice b0 o0 n0 c0)) (.slice none 0 0)).run P w = .ok false w := run_equalIn_slice_nil 9999 hu _ _ _
             simp only [conc] at key ⊢
             simp only [binOp, Op.equal, Op.maxDepth, Sem.run_bind, Sem.run_pure, Result.andThen_ok, key, Bool.not_false])
      · simp at h
    · simp at h
  · split at h
    · rename_i hc
      unfold nilBin at h
      split at h
      · rename_i hti
        obtain ⟨hu, -⟩ := (hT t _ hti).kind
        have hg : ∀ op (s1 s2 : Option Addr) (n1 c1 n2 c2 : Nat), eqGuard op t x y (.slice s1 n1 c1) (.slice s2 n2 c2) = pure () := by
          intro op s1 s2 n1 c1 n2 c2
          simp only [Bool.or_eq_true] at hc
          rcases hc with hc | hc
          · cases x <;> simp [isC] at hc
            cases op <;> simp [eqGuard]
          · cases y <;> simp [isC] at hc
            cases op <;> simp [eqGuard]
        simp only [conc, hg]
        split at h <;> first
          | (simp at h; done)
          | (simp only [Option.some.injEq] at h; subst h
             refine ⟨?_, rfl, rfl⟩
             have key : (Op.equalIn 10000 t (conc ρ .nilslice) (.slice none 0 0)).run P w = .ok true w := run_equalIn_nilslice 9999 hu
             simp only [conc] at key ⊢
             simp only [binOp, Op.equal, Op.maxDepth, Sem.run_bind, Sem.run_pure, Result.andThen_ok, key])
      · simp at h
    · simp at h
  · exact run_aggBin hT x y h (by simp [items, concC, conc, Value.cells]) (by simp [items, concC, conc, Value.cells])
  · exact run_aggBin hT x y h (by simp [items, concC, conc, Value.cells]) (by simp [items])
  · exact run_aggBin hT x y h (by simp [items]) (by simp [items, concC, conc, Value.cells])
  · exact run_aggBin hT x y h (by simp [items]) (by simp [items])
  · simp at h
theorem run_unA {op : UnOp} {a v : AV} (h : unA op a = some v) : (Op.unary op (conc ρ a)).run P w = .ok (conc ρ v) w ∧ okv v = true ∧ refs v = [] := by
  unfold unA at h
  split at h <;> first
    | (simp only [Option.some.injEq] at h; subst h; exact ⟨by simp [Op.unary, Op.intArith, Op.intBits, conc, bitsA], rfl, rfl⟩)
    | (simp at h; done)
theorem SR.refs_mem {m : Mem} {v : AV} {x : Value} (h : SR ρ m v x) : ∀ c ∈ refs v, m c ≠ none := by
  rcases h with rfl | h
  · simp [refs]
  · exact h.2.2
theorem conc_undef {v : AV} (h : v = .undef) : conc ρ v = Go.undef := by subst h; rfl
theorem SR.solid {m : Mem} {v : AV} {x : Value} (h : SR ρ m v x) (hv : solid v = true) : x = conc ρ v := (h.get (by rintro rfl; simp [X.solid] at hv)).1
theorem refs_pick {c : Bool} {a b : AV} : ∀ x ∈ refs (pickA c a b), x ∈ refs a ∨ x ∈ refs b := by
  intro x
  unfold pickA
  split
  · simp [refs]
  · cases c
    · exact fun h => .inr h
    · exact fun h => .inl h
theorem pick_ok {m : Mem} {c : Bool} {a b : AV} {x y : Value} (ha : SR ρ m a x) (hb : SR ρ m b y) : SR ρ m (pickA c a b) (if c = true then x else y) := by
  unfold pickA
  split
  · obtain ⟨rfl, -, -⟩ := ha.get (by simp)
    obtain ⟨rfl, -, -⟩ := hb.get (by simp)
    exact .inr ⟨by cases c <;> simp [conc], rfl, by simp [refs]⟩
  · cases c
    · exact hb
    · exact ha
theorem concT_eq (ρ : Nat → Nat) : ∀ l : List AV, concT ρ l = l.map (conc ρ)
  | [] => rfl
  | v :: l => by simp only [concT, List.map_cons]; rw [concT_eq ρ l]
theorem mem_refsL {c : Nat} : ∀ {l : List AV}, c ∈ refsL l ↔ ∃ v ∈ l, c ∈ refs v
  | [] => by simp [refsL]
  | v :: l => by simp [refsL, mem_refsL (l := l)]
theorem mem_solidL : ∀ {l : List AV}, solidL l = true ↔ ∀ v ∈ l, solid v = true
  | [] => by simp [solidL]
  | v :: l => by simp [solidL, mem_solidL (l := l)]
theorem solid_copies (n : Nat) {v : AV} (h : solid v = true) : solidL (copies n v) = true := by
  unfold copies
  split
  · simp [solidL, X.solid]
  · rw [mem_solidL]
    intro u hu
    simp only [List.mem_flatten, List.mem_replicate] at hu
    obtain ⟨l, ⟨-, rfl⟩, hu⟩ := hu
    exact (mem_solidL.1 (by rw [solidL_items]; exact h)) u hu
theorem refs_copies (n : Nat) {v : AV} (h : refs v = []) : refsL (copies n v) = [] := by
  unfold copies
  split
  · simp [refsL, refs]
  · apply List.eq_nil_iff_forall_not_mem.2
    intro c hc
    obtain ⟨u, hu, hc⟩ := mem_refsL.1 hc
    simp only [List.mem_flatten, List.mem_replicate] at hu
    obtain ⟨l, ⟨-, rfl⟩, hu⟩ := hu
    have : c ∈ refsL (items v) := mem_refsL.2 ⟨u, hu, hc⟩
    rw [refsL_items, h] at this
    simp at this
theorem concC_flatten_replicate (ρ : Nat → Nat) (l : List AV) : ∀ n, concC ρ (List.replicate n l).flatten = (List.replicate n (concC ρ l)).flatten
  | 0 => rfl
  | n + 1 => by simp only [List.replicate_succ, List.flatten_cons]; rw [concC_append, concC_flatten_replicate ρ l n]
theorem concC_copies (ρ : Nat → Nat) (n : Nat) (v : AV) : concC ρ (copies n v) = (List.replicate n (conc ρ v).cells.toList).flatten := by
  unfold copies
  split
  · simp only [concC, conc, Value.cells, List.append_nil, arrCells]
    induction n with
    | zero => rfl
    | succ n ih => rw [List.range_succ_eq_map, List.map_cons, List.map_map, List.replicate_succ, List.flatten_cons]; simpa [Function.comp_def] using ih
  · rw [concC_flatten_replicate, concC_items]
theorem range_mod (z : List Value) (n : Nat) (_hz : 0 < z.length) : (List.range (n * z.length)).map (fun i => z.toArray[i % z.length]!) = (List.replicate n z).flatten := by
  apply List.ext_getElem?
  intro i
  induction n generalizing i with
  | zero => simp
  | succ n ih =>
    rw [List.replicate_succ, List.flatten_cons]
    by_cases hi : i < z.length
    · rw [List.getElem?_append_left hi]
      have : i < (n + 1) * z.length := Nat.lt_of_lt_of_le hi (by rw [Nat.succ_mul]; omega)
      simp [this, Nat.mod_eq_of_lt hi, hi]
    · rw [List.getElem?_append_right (by omega), ← ih (i - z.length)]
      by_cases hj : i - z.length < n * z.length
      · have h1 : i < (n + 1) * z.length := by rw [Nat.succ_mul]; omega
        have h2 : (i - z.length) % z.length = i % z.length := by rw [← Nat.mod_eq_sub_mod (by omega)]
        simp [h1, hj, h2]
      · have h1 : ¬ i < (n + 1) * z.length := by rw [Nat.succ_mul]; omega
        simp [h1, hj]
theorem concC_packI (ρ : Nat → Nat) (l : List AV) : concC ρ (packI l) = concC ρ l ∧ solidL (packI l) = solidL l ∧ refsL (packI l) = refsL l := by
  unfold packI
  split
  · rename_i k n l'
    split
    · rename_i xs hx
      obtain ⟨h1, h2⟩ := intsOf_spec hx
      have hints : ∀ (l : List AV) (xs : List Int), intsOf k l = some xs → solidL l = true ∧ refsL l = [] := by
        intro l
        induction l with
        | nil => intro xs _; simp [solidL, refsL]
        | cons v l ih =>
          intro xs h
          cases v <;> simp only [intsOf] at h <;> try (simp at h; done)
          split at h
          · cases hl : intsOf k l with
            | none => simp [hl] at h
            | some ys => obtain ⟨a, b⟩ := ih ys hl; simp [solidL, refsL, X.solid, refs, a, b]
          · simp at h
      obtain ⟨a, b⟩ := hints _ _ hx
      refine ⟨?_, ?_, ?_⟩
      · rw [h1 ρ]
        simp only [concC, conc, Value.cells, List.append_nil, arrCells]
        apply List.ext_getElem
        · simp
        · intro i h3 h4
          have : i < xs.length := by simpa using h4
          simp [this]
      · rw [a]; simp [solidL, X.solid]
      · rw [b]; simp [refsL, refs]
    · exact ⟨rfl, rfl, rfl⟩
  · exact ⟨rfl, rfl, rfl⟩
end
end Go.X
end

section
namespace Go.X
section
variable {P : Program} {D : Nat → Prop} {ρ0 ρ : Nat → Nat} {w0 w : World} {mem : Mem} {T : TT} {ev : Operand → AV} {aev : Operand → Value} {nxt : Nat}
theorem val_inj {v v' : AV} {up up' : List (Nat × List AV)} {nw nw' : List Blk} (h : OR.val v up nw = .val v' up' nw') : v = v' ∧ up = up' ∧ nw = nw' := by
  injection h with a b c; exact ⟨a, b, c⟩
theorem came_fresh (h : Inv D ρ0 w0 ρ mem w) (hn : mem nxt = none) (t : TypeId) {l : List AV} (hl : solidL l = true) (hr : ∀ c ∈ refsL l, mem c ≠ none) {cells : Array Value} (hc : cells = (concC ρ l).toArray)
    {v : AV} {s : Sem Next} {f : Addr → Value} (hs : ∀ a w', (newRow t cells).run P w = .ok a w' → s.run P w = .ok (.value (f a)) w') (hv : okv v = true) (hrv : refs v = [nxt]) (hf : ∀ ρ' : Nat → Nat, conc ρ' v = f ⟨ρ' nxt, 0, none⟩) :
    Came P D ρ0 w0 ρ mem (memNew mem nxt [⟨l, t⟩]) v s w := by
  obtain ⟨w', ρ', h1, h2, h3, h4⟩ := new_ok (P := P) h hn t hl hr hc
  exact ⟨_, w', ρ', _, hs _ _ h1, .inl rfl, .inr ⟨(hf ρ').symm, hv, by rw [hrv]; intro c hc; simp only [List.mem_singleton] at hc; subst hc; exact h4⟩, h2, h3⟩
theorem ok_move {x : Operand} (h : Inv D ρ0 w0 ρ mem w) (hev : ∀ x, SR ρ mem (ev x) (aev x)) : Came P D ρ0 w0 ρ mem mem (ev x) (pure (.value (aev x))) w :=
  ⟨_, w, ρ, _, rfl, .inl rfl, hev x, h, Later.refl _ _⟩
theorem ok_build (hT : TOk P T) (h : Inv D ρ0 w0 ρ mem w) (hev : ∀ x, SR ρ mem (ev x) (aev x)) {t : TypeId} {parts : Array (Nat × Operand)} {i : TI} (hi : T t = some i) {place : Nat → Option (Nat × Nat)} {l : List AV}
    (hl : fillA place (items i.zero) (parts.toList.map fun p => (p.1, ev p.2)) = some l)
    (hrun : ∀ cells : Array Value, Instr.fill place (concC ρ (items i.zero)).toArray (parts.toList.map fun p => (p.1, aev p.2)) = some cells →
      (Instr.build t (parts.map fun (i, x) => (i, aev x))).run P w = .ok (.agg cells) w) :
    Came P D ρ0 w0 ρ mem mem (asAgg l) (do pure (.value (← Instr.build t (parts.map fun (i, x) => (i, aev x))))) w := by
  have ti := hT t i hi
  obtain ⟨z1, z2, z3⟩ := ti.zero
  have hs : ∀ (parts : List (Nat × AV)) (l l' : List AV), fillA place l parts = some l' → ∀ p ∈ parts, solid p.2 = true := by
    intro parts
    induction parts with
    | nil => simp
    | cons p parts ih =>
      intro l l' hf q hq
      simp only [fillA] at hf
      split at hf
      · simp at hf
      · split at hf
        · rename_i hc
          split at hf
          · simp only [List.mem_cons] at hq
            rcases hq with rfl | hq
            · simp only [Bool.and_eq_true] at hc; exact hc.1
            · exact ih _ _ hf q hq
          · simp at hf
        · simp at hf
  have hsol := hs _ _ _ hl
  obtain ⟨f1, f2, f3, -⟩ := fill_ok (ρ := ρ) (mem := mem) hl (by rw [solidL_items]; exact z2) (fun p hp => by
    simp only [List.mem_map] at hp
    obtain ⟨q, -, rfl⟩ := hp
    exact (hev q.2).refs_mem) (fun c hc => by rw [refsL_items, z1] at hc; simp at hc)
  have e : (parts.toList.map fun p => (p.1, ev p.2)).map (fun p => (p.1, conc ρ p.2)) = parts.toList.map fun p => (p.1, aev p.2) := by
    rw [List.map_map]
    apply List.map_congr_left
    intro p hp
    simp only [Function.comp, Prod.mk.injEq, true_and]
    exact ((hev p.2).solid (hsol _ (List.mem_map.2 ⟨p, hp, rfl⟩))).symm
  rw [e] at f1
  have hr := hrun _ f1
  refine came_pure h ?_ (okv_of_solid (by rw [solid_asAgg]; exact f2)) (by rw [refs_asAgg]; exact f3)
  simp only [Sem.run_bind, hr, Result.andThen_ok, Sem.run_pure, conc_asAgg]
theorem run_zero {t : TypeId} {i : TI} (ti : TIok P t i) (ρ : Nat → Nat) : (zeroValue t).run P w = .ok (conc ρ i.zero) w := by
  obtain ⟨inf, h1, -, h3⟩ := ti.info
  rw [conc_noref ti.zero.1 ρ id]
  simp [zeroValue, typeInfo, h1, h3]
theorem run_mapM_fields : ∀ (l : List Field), (∀ f ∈ l, ∃ j d, P.info? f.type = some j ∧ P.underlying f.type = some d) →
    (l.mapM fun f => (do pure (f.offset, ← sizeOf f.type) : Sem (Nat × Nat))).run P w = .ok (l.map fun f => (f.offset, P.cellsOf f.type)) w
  | [], _ => by simp
  | f :: l, h => by
    obtain ⟨j, d, hj, hd⟩ := h f (by simp)
    have ih := run_mapM_fields l (fun g hg => h g (by simp [hg]))
    rw [List.mapM_cons]
    simp only [Sem.run_bind, run_sizeOf hj, Result.andThen_ok, Sem.run_pure, ih, List.map_cons, Program.cellsOf, hj, Option.map_some, Option.getD_some]
theorem run_build_struct {t : TypeId} {i : TI} (ti : TIok P t i) {fs : List (Nat × Nat × Bool)} (hk : i.kind = .struct fs) {parts : Array (Nat × Value)} {cells : Array Value}
    (hf : Instr.fill (fun j => (fs[j]?).map fun f => (f.1, f.2.1)) (concC ρ (items i.zero)).toArray parts.toList = some cells) : (Instr.build t parts).run P w = .ok (.agg cells) w := by
  have hkk := ti.kind
  rw [hk] at hkk
  obtain ⟨flds, hu, rfl, hex⟩ := hkk
  have hm := run_mapM_fields (P := P) (w := w) flds.toList hex
  simp only [Instr.build, Sem.run_bind, run_zero ti ρ, Result.andThen_ok, run_underlying hu]
  rw [Array.mapM_eq_mapM_toList]
  simp only [Sem.run_map, hm, Result.andThen_ok]
  have e : (fun j : Nat => (flds.toList.map fun f => (f.offset, P.cellsOf f.type)).toArray[j]?) = fun j : Nat => ((flds.toList.map fun f => (f.offset, P.cellsOf f.type, isAggT P f.type))[j]?).map (fun f : Nat × Nat × Bool => (f.1, f.2.1)) := by
    funext j
    simp only [List.getElem?_toArray, List.getElem?_map, Option.map_map]
    rfl
  have e2 : (conc ρ i.zero).cells = (concC ρ (items i.zero)).toArray := by rw [concC_items]
  rw [e, e2]
  rw [hf]
  rfl
theorem run_build_array {t : TypeId} {i : TI} (ti : TIok P t i) {n es : Nat} {ea : Bool} (hk : i.kind = .array n es ea) {parts : Array (Nat × Value)} {cells : Array Value}
    (hf : Instr.fill (fun j => some (j * es, es)) (concC ρ (items i.zero)).toArray parts.toList = some cells) : (Instr.build t parts).run P w = .ok (.agg cells) w := by
  have hkk := ti.kind
  rw [hk] at hkk
  obtain ⟨e, hu, ⟨j, d, hj, hjs, hd⟩, -⟩ := hkk
  simp only [Instr.build, Sem.run_bind, run_zero ti ρ, Result.andThen_ok, run_underlying hu, run_sizeOf hj, hjs]
  have e2 : (conc ρ i.zero).cells = (concC ρ (items i.zero)).toArray := by rw [concC_items]
  rw [e2, hf]
  rfl
theorem ok_buildSlice (hT : TOk P T) (h : Inv D ρ0 w0 ρ mem w) (hn : mem nxt = none) (hev : ∀ x, SR ρ mem (ev x) (aev x)) {t : TypeId} {n : Nat} {parts : Array (Nat × Operand)} {e : TypeId} {es eb sz : Nat} {ez z : AV} {q : Bool} {l : List AV}
    (hi : T t = some ⟨.slice e es eb ez, sz, z, q⟩) (hb : n * es ≤ 65536 ∧ 0 < es)
    (hl : fillA (fun i => some (i * es, es)) (List.replicate n (items ez)).flatten (parts.toList.map fun p => (p.1, ev p.2)) = some l) :
    Came P D ρ0 w0 ρ mem (memNew mem nxt [⟨packI l, e⟩]) (.slice nxt 0 n n) (do pure (.value (← Instr.buildSlice t n (parts.map fun (i, x) => (i, aev x))))) w := by
  obtain ⟨hu, ⟨j, hj, hjs, -, hjz⟩, z1, z2, z3⟩ := (hT t _ hi).kind
  have hs : ∀ (parts : List (Nat × AV)) (l l' : List AV), fillA (fun i => some (i * es, es)) l parts = some l' → ∀ p ∈ parts, solid p.2 = true := by
    intro parts
    induction parts with
    | nil => simp
    | cons p parts ih =>
      intro l l' hf q hq
      simp only [fillA] at hf
      split at hf
      · rename_i hc
        split at hf
        · simp only [List.mem_cons] at hq
          rcases hq with rfl | hq
          · simp only [Bool.and_eq_true] at hc; exact hc.1
          · exact ih _ _ hf q hq
        · simp at hf
      · simp at hf
  have hsol := hs _ _ _ hl
  have hsz : solidL (List.replicate n (items ez)).flatten = true := by
    rw [mem_solidL]; intro u hu'
    simp only [List.mem_flatten, List.mem_replicate] at hu'
    obtain ⟨l', ⟨-, rfl⟩, hu'⟩ := hu'
    exact (mem_solidL.1 (by rw [solidL_items]; exact z2)) u hu'
  have hrz : ∀ c ∈ refsL (List.replicate n (items ez)).flatten, mem c ≠ none := by
    intro c hc
    obtain ⟨u, hu', hc⟩ := mem_refsL.1 hc
    simp only [List.mem_flatten, List.mem_replicate] at hu'
    obtain ⟨l', ⟨-, rfl⟩, hu'⟩ := hu'
    have : c ∈ refsL (items ez) := mem_refsL.2 ⟨u, hu', hc⟩
    rw [refsL_items, z1] at this
    simp at this
  obtain ⟨f1, f2, f3, -⟩ := fill_ok (ρ := ρ) (mem := mem) hl hsz (fun p hp => by
    simp only [List.mem_map] at hp
    obtain ⟨q, -, rfl⟩ := hp
    exact (hev q.2).refs_mem) hrz
  have e1 : (parts.toList.map fun p => (p.1, ev p.2)).map (fun p => (p.1, conc ρ p.2)) = parts.toList.map fun p => (p.1, aev p.2) := by
    rw [List.map_map]
    apply List.map_congr_left
    intro p hp
    simp only [Function.comp, Prod.mk.injEq, true_and]
    exact ((hev p.2).solid (hsol _ (List.mem_map.2 ⟨p, hp, rfl⟩))).symm
  rw [e1, concC_flatten_replicate, concC_items] at f1
  obtain ⟨p1, p2, p3⟩ := concC_packI ρ l
  have hzl : (conc ρ ez).cells.toList.length = es := by rw [length_cells, z3]
  refine came_fresh h hn e (by rw [p2]; exact f2) (by rw [p3]; exact f3) (cells := (concC ρ l).toArray) (by rw [p1]) (f := fun a => .slice (some a) n n) ?_ rfl rfl (fun ρ' => rfl)
  intro a w' hr
  have hzv : (zeroValue e).run P w = .ok (conc ρ ez) w := by
    rw [conc_noref z1 ρ id]; simp [zeroValue, typeInfo, hj, hjz]
  have f1' : Instr.fill (fun i => some (i * es, es)) (List.replicate n (conc ρ ez).cells.toList).flatten.toArray (parts.map fun p => (p.1, aev p.2)).toList = some (concC ρ l).toArray := by
    rw [Array.toList_map]; exact f1
  simp only [Instr.buildSlice, Sem.run_bind, run_underlying hu, Result.andThen_ok, run_sizeOf hj, hjs]
  rw [if_neg (by omega)]
  by_cases hc : n * es = 0
  · have : n = 0 := by
      rcases Nat.mul_eq_zero.1 hc with h' | h'
      · exact h'
      · omega
    subst this
    simp only [List.replicate_zero, List.flatten_nil] at f1'
    simp only [Nat.zero_mul, if_true, Sem.run_bind, Sem.run_pure, Result.andThen_ok, Array.range_zero', Array.map_empty, f1', hr]
  · have hrow : ((Array.range (n * es)).map fun i => (conc ρ ez).cells[i % (conc ρ ez).cells.size]!) = (List.replicate n (conc ρ ez).cells.toList).flatten.toArray := by
      have := range_mod (conc ρ ez).cells.toList n (by omega)
      rw [hzl] at this
      rw [← this]
      apply Array.toList_inj.1
      simp [← Array.length_toList, hzl]
    rw [if_neg hc]
    simp only [Sem.run_bind, hzv, Sem.run_pure, Result.andThen_ok, hrow, f1', hr]
theorem madeCells_copies {ez : AV} {es : Nat} (z3 : width ez = es) (hes : 0 < es) (n : Nat) : madeCells (conc ρ ez).cells (n * es) = (concC ρ (copies n ez)).toArray := by
  have hzl : (conc ρ ez).cells.toList.length = es := by rw [length_cells, z3]
  rw [concC_copies]
  have := range_mod (conc ρ ez).cells.toList n (by omega)
  rw [hzl] at this
  rw [← this]
  apply Array.toList_inj.1
  simp [madeCells, ← Array.length_toList, hzl]
theorem ok_makeSlice (hT : TOk P T) (h : Inv D ρ0 w0 ρ mem w) (hn : mem nxt = none) {t : TypeId} {e : TypeId} {es eb sz : Nat} {ez z : AV} {q : Bool} {k1 k2 : IntKind} {n m : Int}
    (hi : T t = some ⟨.slice e es eb ez, sz, z, q⟩) (hb : 0 ≤ n ∧ n ≤ m ∧ m ≤ 68719476736 ∧ eb ≤ 256 ∧ 0 < es) :
    Came P D ρ0 w0 ρ mem (memNew mem nxt [⟨copies m.toNat ez, e⟩]) (.slice nxt 0 n.toNat m.toNat) (do pure (.value (← Instr.makeSlice t (.int k1 n) (.int k2 m)))) w := by
  obtain ⟨hu, ⟨j, hj, hjs, hjb, hjz⟩, z1, z2, z3⟩ := (hT t _ hi).kind
  obtain ⟨b1, b2, b3, b4, b5⟩ := hb
  have hbm : (j.bytes : Int) * m ≤ 281474976710656 := by
    have h1 : (j.bytes : Int) * m ≤ 256 * m := Int.mul_le_mul_of_nonneg_right (by omega) (by omega)
    omega
  have hr := run_make (P := P) w t e j _ hu hj hjz k1 k2 n m b1 b2 hbm (by omega)
  rw [hjs, conc_noref z1 id ρ, madeCells_copies z3 b5] at hr
  obtain ⟨ρ', h1, h2, h3⟩ := h.alloc hn e (solid_copies m.toNat z2) (by rw [refs_copies _ z1]; simp)
  refine ⟨_, _, ρ', .slice (some ⟨w.heap.size, 0, none⟩) n.toNat m.toNat, ?_, .inl rfl, .inr ⟨by simp [conc, h3], rfl, ?_⟩, h1, h2⟩
  · simp only [Sem.run_bind, hr, Result.andThen_ok, Sem.run_pure]
  · simp [refs, memNew]
theorem run_bound {k : IntKind} {i : Int} {y : Nat} {c : BoundsCode} (h : 0 ≤ i ∧ i ≤ y) : (Instr.sliceBound (.int k i) y c).run P w = .ok i.toNat w := by
  simp [Instr.sliceBound, asIntOf, h]
theorem sliceA_spec {es cap b o : Nat} {l hh : Int} {v : AV} (h : sliceA es cap b o l hh = some v) : 0 ≤ l ∧ l ≤ hh ∧ hh ≤ cap ∧ okv v = true ∧ refs v = [b] ∧
    ∀ ρ : Nat → Nat, Value.slice (if cap = l.toNat then some ⟨ρ b, o, none⟩ else (some (⟨ρ b, o, none⟩ : Addr)).map (·.add (l.toNat * es))) (hh.toNat - l.toNat) (cap - l.toNat) = conc ρ v := by
  unfold sliceA at h
  split at h
  · rename_i hc
    obtain ⟨h1, h2, h3⟩ := hc
    simp only [Option.some.injEq] at h
    subst h
    refine ⟨h1, h2, h3, rfl, rfl, fun ρ => ?_⟩
    by_cases he : (cap : Int) = l
    · rw [if_pos (by omega), if_pos he]; rfl
    · rw [if_neg (by omega), if_neg he]
      simp only [Option.map_some, Addr.add_lit, conc]
  · simp at h
theorem ok_slice (hT : TOk P T) (h : Inv D ρ0 w0 ρ mem w) {t : TypeId} {e : TypeId} {es eb sz : Nat} {ez z : AV} {q : Bool} {b o len cap : Nat} (hi : T t = some ⟨.slice e es eb ez, sz, z, q⟩) (hb : mem b ≠ none)
    {lo hi' : Option Value} {l hh : Int} (hlo : (lo = none ∧ l = 0) ∨ ∃ k, lo = some (.int k l)) (hhi : (hi' = none ∧ hh = len ∧ (len : Int) ≤ cap) ∨ ∃ k, hi' = some (.int k hh)) {v : AV} (hs : sliceA es cap b o l hh = some v) :
    Came P D ρ0 w0 ρ mem mem v (do pure (.value (← Instr.sliceAt t (conc ρ (.slice b o len cap)) lo hi' none))) w := by
  obtain ⟨hu, ⟨j, hj, hjs, hjb, hjz⟩, -⟩ := (hT t _ hi).kind
  obtain ⟨h1, h2, h3, h4, h5, h6⟩ := sliceA_spec hs
  refine came_pure h ?_ h4 (by rw [h5]; simp [hb])
  have hbs : (Instr.sliceBounds true len cap lo hi' none).run P w = .ok (l.toNat, hh.toNat, cap) w := by
    rcases hhi with ⟨rfl, rfl, -⟩ | ⟨k2, rfl⟩
    · rcases hlo with ⟨rfl, rfl⟩ | ⟨k1, rfl⟩
      · simp [Instr.sliceBounds]
      · have := run_bound (P := P) (w := w) (k := k1) (i := l) (y := len) (c := .sliceB) ⟨h1, by omega⟩
        simp [Instr.sliceBounds, this]
    · have hb2 := run_bound (P := P) (w := w) (k := k2) (i := hh) (y := cap) (c := .sliceAcap) ⟨by omega, h3⟩
      rcases hlo with ⟨rfl, rfl⟩ | ⟨k1, rfl⟩
      · simp [Instr.sliceBounds, hb2]
      · have := run_bound (P := P) (w := w) (k := k1) (i := l) (y := hh.toNat) (c := .sliceB) ⟨h1, by omega⟩
        simp [Instr.sliceBounds, this, hb2]
  have := h6 ρ
  simp only [Instr.sliceAt, Sem.run_bind, run_underlying hu, Result.andThen_ok, conc, Instr.slice, hbs, run_sizeOf hj, hjs, Sem.run_pure]
  rw [← this]
theorem ok_sliceArr (hT : TOk P T) (h : Inv D ρ0 w0 ρ mem w) {t : TypeId} {n es sz : Nat} {ea : Bool} {z : AV} {q : Bool} {b o : Nat} (hi : T t = some ⟨.array n es ea, sz, z, q⟩) (hb : mem b ≠ none) {v : AV} (hs : sliceA es n b o 0 n = some v) :
    Came P D ρ0 w0 ρ mem mem v (do pure (.value (← Instr.sliceAt t (conc ρ (.ptr b o)) none none none))) w := by
  obtain ⟨e, hu, ⟨j, d, hj, hjs, hd⟩, -⟩ := (hT t _ hi).kind
  obtain ⟨h1, h2, h3, h4, h5, h6⟩ := sliceA_spec hs
  refine came_pure h ?_ h4 (by rw [h5]; simp [hb])
  have := h6 ρ
  simp only [Instr.sliceAt, Sem.run_bind, run_underlying hu, Result.andThen_ok, conc, Instr.sureAddr, Instr.sliceBounds, run_sizeOf hj, hjs, Sem.run_pure]
  rw [← this]
  simp [Addr.add_zero']
end
end Go.X
end

section
namespace Go.X
section
variable {P : Program} {D : Nat → Prop} {ρ0 ρ : Nat → Nat} {w0 w : World} {mem : Mem} {T : TT} {ev : Operand → AV} {aev : Operand → Value} {nxt : Nat}
theorem asBool_run (b : Bool) : (asBool (.bool b)).run P w = .ok b w := rfl
theorem ok_readAgg (h : Inv D ρ0 w0 ρ mem w) {l a : List AV} {o n : Nat} (hr : readRow l o n = some a) (hs : solidL l = true) (hrf : ∀ c ∈ refsL l, mem c ≠ none) {s : Sem Value}
    (hrun : s.run P w = .ok (.agg ((concC ρ l).toArray.extract o (o + n))) w) : Came P D ρ0 w0 ρ mem mem (asAgg a) (do pure (.value (← s))) w := by
  obtain ⟨r1, r2, r3, r4⟩ := readRow_spec hr
  obtain ⟨x, y, hxy, hx⟩ := r1 ρ
  refine came_pure h ?_ (okv_of_solid (by rw [solid_asAgg]; exact r4 hs)) (by rw [refs_asAgg]; exact fun c hc => hrf c (r3 c hc))
  rw [conc_asAgg]
  simp only [Sem.run_bind, hrun, Result.andThen_ok, Sem.run_pure]
  congr 3
  apply Array.toList_inj.1
  have hl : (concC ρ a).length = n := by rw [length_concC, r2]
  simp only [Array.toList_extract, List.toList_toArray]
  rw [hxy, List.append_assoc, List.extract_eq_take_drop, List.drop_append_of_le_length (by omega), List.drop_of_length_le (by omega), List.nil_append,
    List.take_append_of_le_length (by omega), List.take_of_length_le (by omega)]
theorem ok_readCell (h : Inv D ρ0 w0 ρ mem w) {l : List AV} {v : AV} {o : Nat} (hr : readCell l o = some v) (hs : solidL l = true) (hrf : ∀ c ∈ refsL l, mem c ≠ none) {s : Sem Value}
    (hrun : ∀ x, (concC ρ l)[o]? = some x → s.run P w = .ok x w) : Came P D ρ0 w0 ρ mem mem v (do pure (.value (← s))) w := by
  obtain ⟨r1, r2, r3⟩ := readCell_spec hr
  refine came_pure h ?_ (okv_of_solid (r3 hs)) (fun c hc => hrf c (r2 c hc))
  simp only [Sem.run_bind, hrun _ (r1 ρ), Result.andThen_ok, Sem.run_pure]
theorem part_agg {t : TypeId} {d : TypeDesc} {j : TypeInfo} (hd : P.underlying t = some d) (hj : P.info? t = some j) (ha : isAggT P t = true) (cs : Array Value) (o : Nat) : (part t cs o).run P w = .ok (.agg (cs.extract o (o + j.size))) w := by
  simp only [part, Sem.run_bind, run_isAgg hd, Result.andThen_ok, ha, if_true, run_sizeOf hj, Sem.run_pure]
theorem part_cell {t : TypeId} {d : TypeDesc} (hd : P.underlying t = some d) (ha : isAggT P t = false) {cs : Array Value} {o : Nat} {x : Value} (hx : cs[o]? = some x) : (part t cs o).run P w = .ok x w := by
  simp only [part, Sem.run_bind, run_isAgg hd, Result.andThen_ok, ha, Bool.false_eq_true, if_false, hx, Sem.run_pure]
theorem run_min2 (k k' : IntKind) (a b : Int) : (Builtin.min2 (.int k a) (.int k' b)).run P w = .ok (.int k (if b < a then b else a)) w := rfl
theorem run_max2 (k k' : IntKind) (a b : Int) : (Builtin.max2 (.int k a) (.int k' b)).run P w = .ok (.int k (if b > a then b else a)) w := rfl
theorem map_ev {l : List Operand} {vs : List AV} (hev : ∀ x, SR ρ mem (ev x) (aev x)) (h : l.map ev = vs) (hs : ∀ v ∈ vs, solid v = true) : l.map aev = vs.map (conc ρ) := by
  subst h
  rw [List.map_map]
  apply List.map_congr_left
  intro x hx
  exact (hev x).solid (hs _ (List.mem_map.2 ⟨x, hx, rfl⟩))
set_option maxHeartbeats 1000000 in
theorem opA_ok (hT : TOk P T) (h : Inv D ρ0 w0 ρ mem w) {o : Oper} {v : AV} {up : List (Nat × List AV)} {nw : List Blk} (hn : nw ≠ [] → mem nxt = none) (hev : ∀ x, SR ρ mem (ev x) (aev x)) (hop : opA T mem nxt ev o.op = .val v up nw) :
    Came P D ρ0 w0 ρ mem (memNew (memUp mem up) nxt nw) v (execOp aev o) w := by
  obtain ⟨dst, op, type, pos, after, guard⟩ := o
  simp only at hop
  unfold opA at hop
  split at hop
  · -- move
    obtain ⟨rfl, rfl, rfl⟩ := val_inj hop
    rw [memNew_nil, memUp_nil]
    exact ok_move h hev
  · -- assign
    obtain ⟨rfl, rfl, rfl⟩ := val_inj hop
    rw [memNew_nil, memUp_nil]
    exact ok_move h hev
  · -- pick
    rename_i c a b
    split at hop
    · rename_i q hq
      obtain ⟨rfl, rfl, rfl⟩ := val_inj hop
      rw [memNew_nil, memUp_nil]
      obtain ⟨hc, -, -⟩ := (hev c).get (by rw [hq]; simp)
      rw [hq, conc] at hc
      refine ⟨_, w, ρ, _, ?_, .inl rfl, pick_ok (c := q) (hev a) (hev b), h, Later.refl _ _⟩
      simp only [execOp, hc, Sem.run_bind, asBool_run, Result.andThen_ok, Sem.run_pure]
    · simp at hop
  · -- alloc
    rename_i e
    split at hop
    · rename_i i hi
      obtain ⟨rfl, rfl, rfl⟩ := val_inj hop
      rw [memUp_nil]
      have ti := hT e i hi
      obtain ⟨z1, z2, z3⟩ := ti.zero
      refine came_fresh h (hn (by simp)) e (by rw [solidL_items]; exact z2) (by rw [refsL_items, z1]; simp) (cells := (conc ρ i.zero).cells) (by rw [concC_items]) (f := fun a => .pointer (some a)) ?_ rfl rfl (fun ρ' => rfl)
      intro a w' hr
      simp only [execOp, Instr.alloc, Sem.run_bind, run_zero ti ρ, Result.andThen_ok, newVar, hr, Sem.run_pure]
    · simp at hop
  · -- box
    rename_i e x
    split at hop
    · rename_i hs
      obtain ⟨rfl, rfl, rfl⟩ := val_inj hop
      rw [memUp_nil]
      refine came_fresh h (hn (by simp)) e (by rw [solidL_items]; exact hs) (by rw [refsL_items]; exact (hev x).refs_mem) (cells := (aev x).cells) (by rw [concC_items, (hev x).solid hs]) (f := fun a => .pointer (some a)) ?_ rfl rfl (fun ρ' => rfl)
      intro a w' hr
      simp only [execOp, Instr.box, Sem.run_bind, newVar, hr, Result.andThen_ok, Sem.run_pure]
    · simp at hop
  · -- build
    rename_i t parts
    split at hop
    · rename_i fs sz z q hi
      split at hop
      · rename_i l hl
        obtain ⟨rfl, rfl, rfl⟩ := val_inj hop
        rw [memNew_nil, memUp_nil]
        exact ok_build hT h hev hi hl (fun cells hc => run_build_struct (hT t _ hi) rfl (by rw [Array.toList_map]; exact hc))
      · simp at hop
    · rename_i n es ea sz z q hi
      split at hop
      · rename_i l hl
        obtain ⟨rfl, rfl, rfl⟩ := val_inj hop
        rw [memNew_nil, memUp_nil]
        exact ok_build hT h hev hi hl (fun cells hc => run_build_array (hT t _ hi) rfl (by rw [Array.toList_map]; exact hc))
      · simp at hop
    · simp at hop
  · -- buildSlice
    rename_i t n parts
    split at hop
    · rename_i e es eb ez sz z q hi
      split at hop
      · rename_i hb
        split at hop
        · rename_i l hl
          obtain ⟨rfl, rfl, rfl⟩ := val_inj hop
          rw [memUp_nil]
          exact ok_buildSlice hT h (hn (by simp)) hev hi hb hl
        · simp at hop
      · simp at hop
    · simp at hop
  · -- load
    rename_i t a
    split at hop
    · rename_i u hu
      obtain ⟨rfl, rfl, rfl⟩ := val_inj hop
      rw [memNew_nil, memUp_nil]
      obtain ⟨l1, l2, l3⟩ := load_ok hT h hu (hev a)
      exact came_pure h (by simp only [execOp, Sem.run_bind, l1, Result.andThen_ok, Sem.run_pure]) l2 l3
    · simp at hop
  · -- store
    rename_i t a x
    split at hop
    · rename_i b o i ha hi
      split at hop
      · rename_i blk hm
        split at hop
        · rename_i hs
          simp only [Bool.and_eq_true, beq_iff_eq] at hs
          split at hop
          · rename_i l hl
            obtain ⟨rfl, rfl, rfl⟩ := val_inj hop
            rw [memNew_nil]
            obtain ⟨s1, s2, s3⟩ := store_ok hT h hi hm hs.1 hs.2 hl (hev x).refs_mem
            obtain ⟨ea, -, -⟩ := (hev a).get (by rw [ha]; simp)
            refine ⟨.skip, _, ρ, _, ?_, .inr ⟨rfl, rfl⟩, .inr ⟨rfl, rfl, by simp [refs, refsL]⟩, s2, s3⟩
            rw [ha, conc] at ea
            simp only [execOp, ea, (hev x).solid hs.1, Sem.run_bind, s1, Result.andThen_ok, Sem.run_pure]
          · simp at hop
        · simp at hop
      · simp at hop
    · simp at hop
  · -- nilCheck
    rename_i x
    split at hop <;> first
      | (rename_i hx
         obtain ⟨rfl, rfl, rfl⟩ := val_inj hop
         rw [memNew_nil, memUp_nil]
         obtain ⟨e1, e2, e3⟩ := (hev x).get (by rw [hx]; simp)
         rw [hx] at e1 e2 e3
         exact came_pure h (by simp only [execOp, e1, conc]; rfl) e2 e3)
      | (simp at hop; done)
  · -- binOp
    rename_i op t x y t'
    split at hop
    · rename_i u hu
      obtain ⟨rfl, rfl, rfl⟩ := val_inj hop
      rw [memNew_nil, memUp_nil]
      have hx : ev x ≠ .undef := by intro e; rw [e] at hu; simp [binA] at hu
      have hy : ev y ≠ .undef := by intro e; rw [e] at hu; unfold binA at hu; split at hu <;> simp_all
      obtain ⟨r1, r2, r3⟩ := run_binA (P := P) (w := w) (ρ := ρ) hT x y hu
      refine came_pure h ?_ r2 (by rw [r3]; simp)
      simp only [execOp, ((hev x).get hx).1, ((hev y).get hy).1]
      rw [Sem.run_bind, r1]
      rfl
    · simp at hop
  · -- unOp
    rename_i op t x
    split at hop
    · rename_i u hu
      obtain ⟨rfl, rfl, rfl⟩ := val_inj hop
      rw [memNew_nil, memUp_nil]
      have hx : ev x ≠ .undef := by intro e; rw [e] at hu; cases op <;> simp [unA] at hu
      obtain ⟨r1, r2, r3⟩ := run_unA (P := P) (w := w) (ρ := ρ) hu
      exact came_pure h (by simp only [execOp, ((hev x).get hx).1, Sem.run_bind, r1, Result.andThen_ok, Sem.run_pure]) r2 (by rw [r3]; simp)
    · simp at hop
  · -- convert
    rename_i s d x
    split at hop
    · rename_i i k sz z q k' n hi hd hx
      obtain ⟨rfl, rfl, rfl⟩ := val_inj hop
      rw [memNew_nil, memUp_nil]
      obtain ⟨ex, -, -⟩ := (hev x).get (by rw [hx]; simp)
      obtain ⟨ds, hus⟩ := (hT s i hi).und
      have hud := (hT d _ hd).kind
      simp only at hud
      refine came_pure h ?_ rfl (by simp [refs])
      rw [hx, conc] at ex
      simp only [execOp, ex, convert, Sem.run_bind, run_underlying hus, run_underlying hud, Result.andThen_ok, conc]
      rfl
    · simp at hop
  · -- makeInterface
    rename_i t x
    split at hop
    · simp at hop
    · simp at hop
    · simp at hop
    · rename_i i hni hno hi
      split at hop
      · rename_i hs
        obtain ⟨rfl, rfl, rfl⟩ := val_inj hop
        rw [memNew_nil, memUp_nil]
        obtain ⟨d, hd⟩ := (hT t _ hi).und
        refine came_pure h ?_ (by simpa [okv, solid] using hs) (by simpa [refs] using (hev x).refs_mem)
        have hk := (hT t _ hi).kind
        have hnd : ∀ ms, d ≠ .interface ms := by
          rintro ms rfl
          obtain ⟨kd, sz, z, q⟩ := i
          cases kd <;> simp only [] at hk <;> first
            | (exact (hni _ _ _ rfl).elim)
            | (exact (hno _ _ _ rfl).elim)
            | (rw [hd] at hk; simp at hk)
        have : (Instr.makeInterface t (aev x)).run P w = .ok (.iface t (aev x)) w := by
          simp only [Instr.makeInterface, Sem.run_bind, run_underlying hd, Result.andThen_ok]
          cases d <;> first | rfl | exact (hnd _ rfl).elim
        rw [(hev x).solid hs] at this
        simp only [execOp, Sem.run_bind, (hev x).solid hs, this, Result.andThen_ok, Sem.run_pure, conc]
      · simp at hop
  · -- makeFunc
    rename_i f first cap
    split at hop
    · rename_i hs
      simp only [Bool.and_eq_true, Array.isEmpty_iff] at hs
      obtain ⟨rfl, hs⟩ := hs
      obtain ⟨rfl, rfl, rfl⟩ := val_inj hop
      rw [memNew_nil, memUp_nil]
      have hm := map_ev hev (l := cap.toList) rfl (mem_solidL.1 hs)
      refine came_pure h ?_ (by simpa [okv, solid] using hs) ?_
      · have e : cap.map aev = (concT ρ (cap.toList.map ev)).toArray := by
          apply Array.toList_inj.1
          rw [Array.toList_map, hm, concT_eq]
        simp only [execOp, Instr.makeFunc, Sem.run_bind, Sem.run_pure, Result.andThen_ok, conc, e, Array.map_empty]
      · intro c hc
        simp only [refs] at hc
        obtain ⟨u, hu, hc⟩ := mem_refsL.1 hc
        obtain ⟨x, -, rfl⟩ := List.mem_map.1 hu
        exact (hev x).refs_mem c hc
    · split at hop
      · rename_i hs
        simp only [Bool.and_eq_true, Array.isEmpty_iff] at hs
        obtain ⟨rfl, hs⟩ := hs
        obtain ⟨rfl, rfl, rfl⟩ := val_inj hop
        rw [memNew_nil, memUp_nil]
        have hm := map_ev hev (l := first.toList) rfl (mem_solidL.1 hs)
        refine came_pure h ?_ (by simpa [okv, solid] using hs) ?_
        · have e : first.map aev = (concT ρ (first.toList.map ev)).toArray := by
            apply Array.toList_inj.1
            rw [Array.toList_map, hm, concT_eq]
          simp only [execOp, Instr.makeFunc, Sem.run_bind, Sem.run_pure, Result.andThen_ok, conc, e, Array.map_empty]
        · intro c hc
          simp only [refs] at hc
          obtain ⟨u, hu, hc⟩ := mem_refsL.1 hc
          obtain ⟨x, -, rfl⟩ := List.mem_map.1 hu
          exact (hev x).refs_mem c hc
      · simp at hop
  · -- makeSlice
    rename_i t l c
    split at hop
    · rename_i e es eb ez sz z q k1 n k2 m hi hl hc
      split at hop
      · rename_i hb
        obtain ⟨rfl, rfl, rfl⟩ := val_inj hop
        rw [memUp_nil]
        obtain ⟨el, -, -⟩ := (hev l).get (by rw [hl]; simp)
        obtain ⟨ec, -, -⟩ := (hev c).get (by rw [hc]; simp)
        rw [hl, conc] at el; rw [hc, conc] at ec
        have := ok_makeSlice (P := P) hT h (hn (by simp)) (k1 := k1) (k2 := k2) hi hb
        rw [← el, ← ec] at this
        exact this
      · simp at hop
    · simp at hop
  · -- slice
    rename_i t x lo hi'
    have fin : ∀ {e : TypeId} {es eb sz : Nat} {ez z : AV} {q : Bool} {b o len cap : Nat} (hi : T t = some ⟨.slice e es eb ez, sz, z, q⟩) (hx : ev x = .slice b o len cap) {l hh : Int}
        (hlo : (lo.map aev = none ∧ l = 0) ∨ ∃ k, lo.map aev = some (.int k l)) (hhi : (hi'.map aev = none ∧ hh = len) ∨ ∃ k, hi'.map aev = some (.int k hh)),
        (match sliceA es cap b o l hh with | some v => OR.val v [] [] | none => .fail) = .val v up nw → Came P D ρ0 w0 ρ mem (memNew (memUp mem up) nxt nw) v (execOp aev { dst := dst, op := .slice t x lo hi' none, type := type, pos := pos, after := after, guard := guard }) w := by
      intro e es eb sz ez z q b o len cap hi hx l hh hlo hhi hop
      split at hop
      · rename_i u hu
        obtain ⟨rfl, rfl, rfl⟩ := val_inj hop
        rw [memNew_nil, memUp_nil]
        obtain ⟨ex, -, ec⟩ := (hev x).get (by rw [hx]; simp)
        rw [hx] at ex ec
        have hle : (len : Int) ≤ cap ∨ ∃ k, hi'.map aev = some (.int k hh) := by
          rcases hhi with ⟨-, rfl⟩ | hk
          · exact .inl (sliceA_spec hu).2.2.1
          · exact .inr hk
        have := ok_slice (P := P) hT h hi (ec b (by simp [refs])) hlo (hi' := hi'.map aev) (hh := hh) (by
          rcases hhi with ⟨a, c⟩ | hk
          · rcases hle with hle | hk
            · exact .inl ⟨a, c, hle⟩
            · exact .inr hk
          · exact .inr hk) hu
        rw [← ex] at this
        exact this
      · simp at hop
    have sm : ∀ {p : Option Operand} {k : IntKind} {n : Int}, p.map ev = some (.int k n) → ∃ k', p.map aev = some (.int k' n) := by
      intro p k n hp
      cases p with
      | none => simp at hp
      | some y =>
        simp only [Option.map_some, Option.some.injEq] at hp
        obtain ⟨ey, -, -⟩ := (hev y).get (by rw [hp]; simp)
        rw [hp, conc] at ey
        exact ⟨k, by simp [ey]⟩
    have nn : ∀ {p : Option Operand}, p.map ev = none → p.map aev = none := by
      intro p hp; cases p <;> simp_all
    split at hop
    · rename_i hi hx hlo hhi
      exact fin hi hx (.inl ⟨nn hlo, rfl⟩) (.inl ⟨nn hhi, rfl⟩) hop
    · rename_i hi hx hlo hhi
      exact fin hi hx (.inr (sm hlo)) (.inl ⟨nn hhi, rfl⟩) hop
    · rename_i hi hx hlo hhi
      exact fin hi hx (.inl ⟨nn hlo, rfl⟩) (.inr (sm hhi)) hop
    · rename_i hi hx hlo hhi
      exact fin hi hx (.inr (sm hlo)) (.inr (sm hhi)) hop
    · rename_i n es ea sz z q b o hi hx hlo hhi
      split at hop
      · rename_i u hu
        obtain ⟨rfl, rfl, rfl⟩ := val_inj hop
        rw [memNew_nil, memUp_nil]
        obtain ⟨ex, -, ec⟩ := (hev x).get (by rw [hx]; simp)
        rw [hx] at ex ec
        have := ok_sliceArr (P := P) hT h hi (ec b (by simp [refs])) hu
        rw [← ex] at this
        simp only [execOp, nn hlo, nn hhi, Option.map_none]
        exact this
      · simp at hop
    · simp at hop
  · -- fieldAddr
    rename_i s x f
    split at hop
    · rename_i fs sz z q b o hi hx
      split at hop
      · rename_i off n ag hf
        split at hop
        · simp at hop
        · rename_i hn0
          obtain ⟨rfl, rfl, rfl⟩ := val_inj hop
          rw [memNew_nil, memUp_nil]
          obtain ⟨flds, hu, rfl, hex⟩ := (hT s _ hi).kind
          obtain ⟨ex, -, ec⟩ := (hev x).get (by rw [hx]; simp)
          rw [hx] at ex ec
          simp only [List.getElem?_map, Option.map_eq_some_iff, Array.getElem?_toList, Prod.mk.injEq] at hf
          obtain ⟨fl, hfl, rfl, rfl, rfl⟩ := hf
          obtain ⟨j, d, hj, hd⟩ := hex fl (by rw [Array.mem_toList_iff]; exact Array.mem_of_getElem? hfl)
          have hjs : j.size ≠ 0 := by simpa [Program.cellsOf, hj] using hn0
          refine came_pure h ?_ rfl (by simpa [refs] using ec)
          simp only [execOp, ex, conc, Instr.fieldAt, Sem.run_bind, run_underlying hu, Result.andThen_ok, hfl, Instr.sureAddr, Sem.run_pure, fieldPlace, run_sizeOf hj, hjs, if_false, Addr.add_lit]
      · simp at hop
    · simp at hop
  · -- field
    rename_i s x f
    split at hop
    · rename_i fs sz z q hi
      obtain ⟨flds, hu, rfl, hex⟩ := (hT s _ hi).kind
      have fin : ∀ {off n : Nat} {ag : Bool} (hf : (flds.toList.map fun f => (f.offset, P.cellsOf f.type, isAggT P f.type))[f]? = some (off, n, ag)),
          ∃ fl j d, flds[f]? = some fl ∧ P.info? fl.type = some j ∧ P.underlying fl.type = some d ∧ fl.offset = off ∧ j.size = n ∧ isAggT P fl.type = ag := by
        intro off n ag hf
        simp only [List.getElem?_map, Option.map_eq_some_iff, Array.getElem?_toList, Prod.mk.injEq] at hf
        obtain ⟨fl, hfl, h1, h2, h3⟩ := hf
        obtain ⟨j, d, hj, hd⟩ := hex fl (by rw [Array.mem_toList_iff]; exact Array.mem_of_getElem? hfl)
        exact ⟨fl, j, d, hfl, hj, hd, h1, by simpa [Program.cellsOf, hj] using h2, h3⟩
      split at hop
      · rename_i off n l hf hx
        split at hop
        · split at hop
          · rename_i a hr
            obtain ⟨rfl, rfl, rfl⟩ := val_inj hop
            rw [memNew_nil, memUp_nil]
            obtain ⟨fl, j, d, hfl, hj, hd, rfl, rfl, hag⟩ := fin hf
            obtain ⟨ex, es, ec⟩ := (hev x).get (by rw [hx]; simp)
            rw [hx] at ex es ec
            refine ok_readAgg (s := Instr.field s (aev x) f) h hr (by simpa [okv, solid] using es) (by simpa [refs] using ec) ?_
            simp only [Instr.field, Sem.run_bind, run_underlying hu, Result.andThen_ok, hfl, ex, conc, Go.asAgg, Sem.run_pure, part_agg hd hj hag]
          · simp at hop
        · simp at hop
      · rename_i off n l hf hx
        split at hop
        · split at hop
          · rename_i a hr
            obtain ⟨rfl, rfl, rfl⟩ := val_inj hop
            rw [memNew_nil, memUp_nil]
            obtain ⟨fl, j, d, hfl, hj, hd, rfl, rfl, hag⟩ := fin hf
            obtain ⟨ex, es, ec⟩ := (hev x).get (by rw [hx]; simp)
            rw [hx] at ex es ec
            refine ok_readCell (s := Instr.field s (aev x) f) h hr (by simpa [okv, solid] using es) (by simpa [refs] using ec) ?_
            intro y hy
            simp only [Instr.field, Sem.run_bind, run_underlying hu, Result.andThen_ok, hfl, ex, conc, Go.asAgg, Sem.run_pure]
            exact part_cell hd hag (by simpa using hy)
          · simp at hop
        · simp at hop
      · rename_i off n k m g hf hx
        split at hop
        · split at hop
          · rename_i a hr
            obtain ⟨rfl, rfl, rfl⟩ := val_inj hop
            rw [memNew_nil, memUp_nil]
            obtain ⟨fl, j, d, hfl, hj, hd, rfl, rfl, hag⟩ := fin hf
            obtain ⟨ex, es, ec⟩ := (hev x).get (by rw [hx]; simp)
            rw [hx] at ex es ec
            refine ok_readAgg (s := Instr.field s (aev x) f) h hr (by simp [solidL, solid]) (by simp [refsL, refs]) ?_
            simp only [Instr.field, Sem.run_bind, run_underlying hu, Result.andThen_ok, hfl, ex, conc, Go.asAgg, Sem.run_pure, part_agg hd hj hag, concC, Value.cells, List.append_nil]
          · simp at hop
        · simp at hop
      · simp at hop
    · simp at hop
  · -- indexAddr
    rename_i t x ix
    split at hop
    · rename_i n es ea sz z q b o k i hi hx hix
      split at hop
      · rename_i hb
        obtain ⟨rfl, rfl, rfl⟩ := val_inj hop
        rw [memNew_nil, memUp_nil]
        obtain ⟨e, hu, ⟨j, d, hj, hjs, hd⟩, -⟩ := (hT t _ hi).kind
        obtain ⟨ex, -, ec⟩ := (hev x).get (by rw [hx]; simp)
        obtain ⟨ei, -, -⟩ := (hev ix).get (by rw [hix]; simp)
        rw [hx] at ex ec; rw [hix] at ei
        refine came_pure h ?_ rfl (by simpa [refs] using ec)
        simp only [execOp, ex, ei, conc, Instr.indexAt, asIntOf, Sem.run_bind, Sem.run_pure, run_underlying hu, Result.andThen_ok, Instr.sureAddr, hb, and_self, if_true, run_sizeOf hj, hjs, Addr.add_lit]
      · simp at hop
    · rename_i e es eb ez sz z q b o n c k i hi hx hix
      split at hop
      · rename_i hb
        obtain ⟨rfl, rfl, rfl⟩ := val_inj hop
        rw [memNew_nil, memUp_nil]
        obtain ⟨hu, ⟨j, hj, hjs, -⟩, -⟩ := (hT t _ hi).kind
        obtain ⟨ex, -, ec⟩ := (hev x).get (by rw [hx]; simp)
        obtain ⟨ei, -, -⟩ := (hev ix).get (by rw [hix]; simp)
        rw [hx] at ex ec; rw [hix] at ei
        refine came_pure h ?_ rfl (by simpa [refs] using ec)
        simp only [execOp, ex, ei, conc, Instr.indexAt, asIntOf, Sem.run_bind, Sem.run_pure, run_underlying hu, Result.andThen_ok, hb, and_self, if_true, run_sizeOf hj, hjs, Addr.add_lit]
      · simp at hop
    · simp at hop
  · -- index
    rename_i t x ix
    split at hop
    · rename_i n es ea sz z q k i hi hix
      split at hop
      · rename_i hb
        obtain ⟨e, hu, ⟨j, d, hj, hjs, hd⟩, hag⟩ := (hT t _ hi).kind
        obtain ⟨ei, -, -⟩ := (hev ix).get (by rw [hix]; simp)
        rw [hix] at ei
        split at hop
        · rename_i l hx
          split at hop
          · rename_i a hr
            obtain ⟨rfl, rfl, rfl⟩ := val_inj hop
            rw [memNew_nil, memUp_nil]
            obtain ⟨ex, es', ec⟩ := (hev x).get (by rw [hx]; simp)
            rw [hx] at ex es' ec
            refine ok_readAgg (s := Instr.index t (aev x) (aev ix)) h hr (by simpa [okv, solid] using es') (by simpa [refs] using ec) ?_
            have hpa := part_agg (w := w) hd hj hag
            simp only [Instr.index, ei, ex, conc, asIntOf, Sem.run_bind, Sem.run_pure, run_underlying hu, Result.andThen_ok, hb, and_self, if_true, run_sizeOf hj, hpa, hjs]
          · simp at hop
        · rename_i l hx
          split at hop
          · rename_i a hr
            obtain ⟨rfl, rfl, rfl⟩ := val_inj hop
            rw [memNew_nil, memUp_nil]
            obtain ⟨ex, es', ec⟩ := (hev x).get (by rw [hx]; simp)
            rw [hx] at ex es' ec
            refine ok_readCell (s := Instr.index t (aev x) (aev ix)) h hr (by simpa [okv, solid] using es') (by simpa [refs] using ec) ?_
            intro y hy
            simp only [Instr.index, ei, ex, conc, asIntOf, Sem.run_bind, Sem.run_pure, run_underlying hu, Result.andThen_ok, hb, and_self, if_true, run_sizeOf hj, hjs]
            exact part_cell hd hag (by simpa using hy)
          · simp at hop
        · rename_i k' m g hx
          split at hop
          · rename_i hm
            obtain ⟨rfl, rfl, rfl⟩ := val_inj hop
            rw [memNew_nil, memUp_nil]
            obtain ⟨ex, es', ec⟩ := (hev x).get (by rw [hx]; simp)
            rw [hx] at ex es' ec
            refine came_pure h ?_ rfl (by simp [refs])
            have hp : (part e (arrCells k' m g).toArray (i.toNat * es)).run P w = .ok (.int k' (g (i.toNat * es))) w := part_cell hd hag (by simp [arrCells, hm])
            simp only [execOp, Instr.index, ei, ex, conc, asIntOf, Sem.run_bind, Sem.run_pure, run_underlying hu, Result.andThen_ok, hb, and_self, if_true, run_sizeOf hj, hjs, hp]
          · simp at hop
        · simp at hop
      · simp at hop
    · simp at hop
  · -- extract
    rename_i x i
    split at hop
    · rename_i l hx
      split at hop
      · rename_i u hu
        obtain ⟨rfl, rfl, rfl⟩ := val_inj hop
        rw [memNew_nil, memUp_nil]
        obtain ⟨ex, es, ec⟩ := (hev x).get (by rw [hx]; simp)
        rw [hx] at ex es ec
        have hm : u ∈ l := List.mem_of_getElem? hu
        refine came_pure h ?_ (okv_of_solid (mem_solidL.1 (by simpa [okv] using es) u hm)) (fun c hc => ec c (by simp only [refs]; exact mem_refsL.2 ⟨u, hm, hc⟩))
        simp [execOp, ex, conc, Instr.extract, concT_eq, hu]
      · simp at hop
    · simp at hop
  · -- typeAssert
    rename_i x xt t ok
    split at hop
    · simp at hop
    · simp at hop
    · simp at hop
    · rename_i i u y hni hno hi hx
      obtain ⟨d, hd⟩ := (hT t _ hi).und
      have hk := (hT t _ hi).kind
      have hnd : ∀ ms, d ≠ .interface ms := by
        rintro ms rfl
        obtain ⟨kd, sz, z, q⟩ := i
        cases kd <;> simp only [] at hk <;> first
          | (exact (hni _ _ _ rfl).elim)
          | (exact (hno _ _ _ rfl).elim)
          | (rw [hd] at hk; simp at hk)
      obtain ⟨ex, es, ec⟩ := (hev x).get (by rw [hx]; simp)
      rw [hx] at ex es ec
      have es' : solid y = true := by simpa [okv, solid] using es
      have ec' : ∀ c ∈ refs y, mem c ≠ none := by simpa [refs] using ec
      have key : ∀ ok : Bool, (u = t → (Instr.typeAssert (aev x) xt t ok).run P w = .ok (if ok then .tuple #[conc ρ y, .bool true] else conc ρ y) w) ∧
          (u ≠ t → ok = true → (Instr.typeAssert (aev x) xt t ok).run P w = .ok (.tuple #[conc ρ i.zero, .bool false]) w) := by
        intro ok
        refine ⟨fun e => ?_, fun e ho => ?_⟩
        · subst e
          simp only [Instr.typeAssert, ex, conc, Sem.run_bind, run_underlying hd, Result.andThen_ok]
          cases d <;> first | exact (hnd _ rfl).elim | simp
        · subst ho
          simp only [Instr.typeAssert, ex, conc, Sem.run_bind, run_underlying hd, Result.andThen_ok]
          cases d <;> first | exact (hnd _ rfl).elim | simp [e, run_zero (hT t _ hi) ρ]
      obtain ⟨z1, z2, z3⟩ := (hT t _ hi).zero
      split at hop
      · rename_i hut
        have k1 := (key ok).1 hut
        split at hop
        · rename_i hok
          obtain ⟨rfl, rfl, rfl⟩ := val_inj hop
          rw [memNew_nil, memUp_nil]
          refine came_pure h ?_ (by simp [okv, solidL, solid, es']) (by simpa [refs, refsL] using ec')
          simp only [execOp, Sem.run_bind, k1, Result.andThen_ok, Sem.run_pure]
          simp [hok, conc, concT]
        · rename_i hok
          obtain ⟨rfl, rfl, rfl⟩ := val_inj hop
          rw [memNew_nil, memUp_nil]
          refine came_pure h ?_ (okv_of_solid es') ec'
          simp only [execOp, Sem.run_bind, k1, Result.andThen_ok, Sem.run_pure]
          simp [hok]
      · rename_i hut
        split at hop
        · rename_i hok
          have k2 := (key ok).2 hut hok
          obtain ⟨rfl, rfl, rfl⟩ := val_inj hop
          rw [memNew_nil, memUp_nil]
          refine came_pure h ?_ (by simp [okv, solidL, solid, z2]) (by simp [refs, refsL, z1])
          simp only [execOp, Sem.run_bind, k2, Result.andThen_ok, Sem.run_pure]
          simp [conc, concT]
        · simp at hop
    · simp at hop
  · -- panic
    split at hop <;> simp at hop
  · -- len
    rename_i args argTypes
    have ex0 : ∀ {y : AV}, (args[0]?).map ev = some y → y ≠ .undef → ∃ q, args[0]? = some q ∧ aev q = conc ρ y := by
      intro y hy hu
      cases ha : args[0]? with
      | none => simp [ha] at hy
      | some q =>
        simp only [ha, Option.map_some, Option.some.injEq] at hy
        exact ⟨q, rfl, by have := ((hev q).get (by rw [hy]; exact hu)).1; rw [hy] at this; exact this⟩
    split at hop
    · rename_i e es eb ez sz z q b o n c ht ha
      obtain ⟨rfl, rfl, rfl⟩ := val_inj hop
      rw [memNew_nil, memUp_nil]
      obtain ⟨p, hp, hap⟩ := ex0 ha (by simp)
      cases hat : argTypes[0]? with
      | none => simp [hat] at ht
      | some t =>
        simp only [hat, Option.bind_some] at ht
        obtain ⟨hu, -⟩ := (hT t _ ht).kind
        refine came_pure h ?_ rfl (by simp [refs])
        simp [execOp, resolve, invoke, builtin, Builtin.len_, hat, hp, hap, conc, run_underlying hu, goInt]
    · rename_i e es eb ez sz z q ht ha
      obtain ⟨rfl, rfl, rfl⟩ := val_inj hop
      rw [memNew_nil, memUp_nil]
      obtain ⟨p, hp, hap⟩ := ex0 ha (by simp)
      cases hat : argTypes[0]? with
      | none => simp [hat] at ht
      | some t =>
        simp only [hat, Option.bind_some] at ht
        obtain ⟨hu, -⟩ := (hT t _ ht).kind
        refine came_pure h ?_ rfl (by simp [refs])
        simp [execOp, resolve, invoke, builtin, Builtin.len_, hat, hp, hap, conc, run_underlying hu, goInt]
    · rename_i n es ea sz z q y ht ha
      obtain ⟨rfl, rfl, rfl⟩ := val_inj hop
      rw [memNew_nil, memUp_nil]
      cases hat : argTypes[0]? with
      | none => simp [hat] at ht
      | some t =>
        simp only [hat, Option.bind_some] at ht
        obtain ⟨e, hu, -⟩ := (hT t _ ht).kind
        cases hp : args[0]? with
        | none => simp [hp] at ha
        | some p =>
          refine came_pure h ?_ rfl (by simp [refs])
          simp [execOp, resolve, invoke, builtin, Builtin.len_, hat, hp, conc, run_underlying hu, goInt]
    · simp at hop
  · -- min
    rename_i args argTypes
    split at hop
    · rename_i k a k' b ha
      obtain ⟨rfl, rfl, rfl⟩ := val_inj hop
      rw [memNew_nil, memUp_nil]
      have hm := map_ev hev ha (by simp [solid])
      refine came_pure h ?_ rfl (by simp [refs])
      have hl : args.toList.map aev = [.int k a, .int k' b] := by rw [hm]; rfl
      simp [execOp, resolve, invoke, builtin, Builtin.min_, hl, run_min2, conc]
    · rename_i k a k' b k'' c ha
      obtain ⟨rfl, rfl, rfl⟩ := val_inj hop
      rw [memNew_nil, memUp_nil]
      have hm := map_ev hev ha (by simp [solid])
      refine came_pure h ?_ rfl (by simp [refs])
      have hl : args.toList.map aev = [.int k a, .int k' b, .int k'' c] := by rw [hm]; rfl
      simp [execOp, resolve, invoke, builtin, Builtin.min_, hl, run_min2, conc]
    · simp at hop
  · -- max
    rename_i args argTypes
    split at hop
    · rename_i k a k' b ha
      obtain ⟨rfl, rfl, rfl⟩ := val_inj hop
      rw [memNew_nil, memUp_nil]
      have hm := map_ev hev ha (by simp [solid])
      refine came_pure h ?_ rfl (by simp [refs])
      have hl : args.toList.map aev = [.int k a, .int k' b] := by rw [hm]; rfl
      simp [execOp, resolve, invoke, builtin, Builtin.max_, hl, run_max2, conc]
    · rename_i k a k' b k'' c ha
      obtain ⟨rfl, rfl, rfl⟩ := val_inj hop
      rw [memNew_nil, memUp_nil]
      have hm := map_ev hev ha (by simp [solid])
      refine came_pure h ?_ rfl (by simp [refs])
      have hl : args.toList.map aev = [.int k a, .int k' b, .int k'' c] := by rw [hm]; rfl
      simp [execOp, resolve, invoke, builtin, Builtin.max_, hl, run_max2, conc]
    · simp at hop
  · simp at hop
end
end Go.X
end

section
namespace Go.X
inductive CR where
  | val (v : AV) (up : List (Nat × List AV)) (nw : List Blk)
  | pan (v : AV) (up : List (Nat × List AV)) (nw : List Blk)
  | any (k : Nat → CR)
  | fail
abbrev Sum := List AV → (Nat → Option Blk) → Nat → CR
abbrev ST := FuncId → Option Sum
structure St where
  ts : List AV
  m : List Blk
  df : List (FuncId × List AV)
def St.mem (s : St) : Mem := fun b => s.m[b]?
def St.put (s : St) (d : Option Tmp) (v : AV) : St := match d with
  | some t => { s with ts := s.ts.set t v }
  | none => s
def upM (m : List Blk) : List (Nat × List AV) → List Blk
  | [] => m
  | (b, l) :: up => upM (m.modify b fun k => { k with items := l }) up
theorem upM_length : ∀ (up : List (Nat × List AV)) (m : List Blk), (upM m up).length = m.length
  | [], m => rfl
  | (b, l) :: up, m => by simp only [upM]; rw [upM_length up]; simp
theorem upM_mem : ∀ (up : List (Nat × List AV)) (m : List Blk), (fun b => (upM m up)[b]?) = memUp (fun b => m[b]?) up
  | [], m => rfl
  | (b, l) :: up, m => by
    simp only [upM, memUp]
    rw [upM_mem up]
    congr 1
    funext c
    rw [List.getElem?_modify]
    by_cases h : c = b
    · subst h; simp
    · have : ¬ b = c := fun e => h e.symm
      simp [h, this]
theorem newM_mem (m : List Blk) (up : List (Nat × List AV)) (nw : List Blk) : (fun b => (upM m up ++ nw)[b]?) = memNew (memUp (fun b => m[b]?) up) m.length nw := by
  funext b
  have hl := upM_length up m
  rw [← upM_mem]
  unfold memNew
  by_cases h : b < m.length
  · rw [List.getElem?_append_left (by omega), if_neg (by omega)]
  · rw [List.getElem?_append_right (by omega), hl]
    by_cases h2 : b < m.length + nw.length
    · rw [if_pos (by omega)]
    · rw [if_neg (by omega), List.getElem?_eq_none (by omega)]
      exact (List.getElem?_eq_none (by omega : (upM m up).length ≤ b)).symm
inductive Ex where
  | norm
  | exit (id : Nat)
  | ret
  | pan (v : AV)
inductive Out where
  | fin (x : Ex) (s : St)
  | any (k : Nat → Out)
  | fail
def Out.bind : Out → (St → Out) → Out
  | .fin .norm s, f => f s
  | .fin x s, _ => .fin x s
  | .any k, f => .any fun n => (k n).bind f
  | .fail, _ => .fail
def Good : Out → (Ex → St → Prop) → Prop
  | .fin x s, Q => Q x s
  | .any k, Q => ∀ n, Good (k n) Q
  | .fail, _ => False
def Ex.seq (f : St → Prop) (Q : Ex → St → Prop) : Ex → St → Prop
  | .norm, s => f s
  | x, s => Q x s
theorem Good.bind {Q : Ex → St → Prop} {f : St → Out} : ∀ {o : Out}, Good (o.bind f) Q → Good o (Ex.seq (fun s => Good (f s) Q) Q)
  | .fin x s, h => by cases x <;> exact h
  | .any k, h => fun n => Good.bind (h n)
  | .fail, h => h
def ofCR (d : Option Tmp) (s : St) : CR → Out
  | .val v up nw => .fin .norm (St.put { s with m := upM s.m up ++ nw } d v)
  | .pan v up nw => .fin (.pan v) { s with m := upM s.m up ++ nw }
  | .any k => .any fun n => ofCR d s (k n)
  | .fail => .fail
def ofOR (d : Option Tmp) (s : St) : OR → Out
  | .val v up nw => .fin .norm (St.put { s with m := upM s.m up ++ nw } d v)
  | .pan v up nw => .fin (.pan v) { s with m := upM s.m up ++ nw }
  | .fail => .fail
def envOf (mem : Mem) (l : List Nat) : Mem := fun b => if b ∈ l then mem b else none
def catF (n n' : Nat) (f : Nat → Int) (o : Nat) (g : Nat → Int) (o' : Nat) (j : Nat) : Int := if j < n then f (o + j) else if j < n + n' then g (o' + (j - n)) else 0
def putF (f : Nat → Int) (a m : Nat) (g : Nat → Int) (o : Nat) (j : Nat) : Int := if a ≤ j ∧ j < a + m then g (o + (j - a)) else f j
def zerosK (k : IntKind) : List AV → Bool
  | [] => true
  | .int k' m :: l => k' == k && m == 0 && zerosK k l
  | _ => false
def zeroK (es : Nat) (ez : AV) : Option IntKind := match items ez with
  | .int k m :: l => if (m == 0 && zerosK k l) = true ∧ l.length + 1 = es then some k else none
  | _ => none
def rowB (es : Nat) (k : IntKind) (b : Option Blk) (o n : Nat) : Option (Nat × Nat × (Nat → Int)) := match b with
  | some ⟨[.arr k1 N f], _⟩ => if k1 = k ∧ o + n * es ≤ N then some (n, o, f) else none
  | some ⟨[.win _ _ _ k1 f S], _⟩ => if k1 = k ∧ covB S o (n * es) = true then some (n, o, f) else none
  | some ⟨[], _⟩ => if n = 0 then some (0, 0, fun _ => 0) else none
  | _ => none
def rowK (mem : Mem) (es : Nat) (k : IntKind) (v : AV) : Option (Nat × Nat × (Nat → Int)) := match v with
  | .nilslice => some (0, 0, fun _ => 0)
  | .slice p o n _ => rowB es k (mem p) o n
  | _ => none
def roomK (v : AV) : Nat := match v with
  | .slice _ _ _ c => c
  | _ => 0
def isSl (v : AV) : Bool := match v with
  | .slice .. => true
  | _ => false
def roomA (mem : Mem) (es : Nat) (k : IntKind) (d : AV) (n n' : Nat) (g : Nat → Int) (o' : Nat) : OR := match d with
  | .slice p o1 _ cp => match mem p with
    | some ⟨[.arr k1 N f], _⟩ => if k1 = k ∧ o1 + (n + n') * es ≤ N then .val (.slice p o1 (n + n') cp) [(p, [.arr k N (putF f (o1 + n * es) (n' * es) g o')])] [] else .fail
    | _ => .fail
  | _ => .fail
def appA (T : TT) (mem : Mem) (nxt : Nat) (tys : List TypeId) (vs : List AV) (c : Nat) : OR := match tys, vs with
  | [t, t'], [d, x] => match T t with
    | some ⟨.slice e es eb ez, _, _, _⟩ => match zeroK es ez with
      | some k => match rowK mem es k d, rowK mem es k x with
        | some (n, o, f), some (n', o', g) =>
          if t = t' ∧ n + n' ≤ 1048576 ∧ eb ≤ 256 then
            if roomK d < n + n' ∧ isSl x = true then .val (.slice nxt 0 (n + n') (n + n' + c)) [] [⟨[.arr k ((n + n' + c) * es) (catF (n * es) (n' * es) f o g o')], e⟩]
            else if n' = 0 then (if n ≤ roomK d then .val d [] [] else .fail) else roomA mem es k d n n' g o'
          else .fail
        | _, _ => .fail
      | none => .fail
    | _ => .fail
  | _, _ => .fail
def needA (T : TT) (mem : Mem) (tys : List TypeId) (vs : List AV) : Nat × Nat × TypeId := match tys, vs with
  | [t, _], [d, x] => match T t with
    | some ⟨.slice e es _ ez, _, _, _⟩ => match zeroK es ez with
      | some k => match rowK mem es k d, rowK mem es k x with
        | some (n, _, _), some (n', _, _) => (n + n', roomK d, e)
        | _, _ => (0, 0, e)
      | none => (0, 0, e)
    | _ => (0, 0, t)
  | _, _ => (0, 0, 0)
def callee (v : AV) (as : List AV) : Option (FuncId × List AV) := match v with
  | .fn id cap => some (id, as ++ cap)
  | .mv id first => some (id, first ++ as)
  | _ => none
def doOp (T : TT) (S : ST) (o : Oper) (s : St) : Out :=
  match o.op with
  | .call { callee := .value f, args, argTypes := _ } => match callee (evA s.ts f) (args.toList.map (evA s.ts)) with
    | some (id, l) => match S id with
      | some g => if solidL l then ofCR o.dst s (g l s.mem s.m.length) else .fail
      | none => .fail
    | none => .fail
  | .defer { callee := .value f, args, argTypes := _ } => match evA s.ts f with
    | .fn id cap => if args.isEmpty then .fin .norm (St.put { s with df := (id, cap) :: s.df } o.dst (.tup [])) else .fail
    | _ => .fail
  | .call { callee := .builtin .append, args, argTypes } => .any fun c => ofOR o.dst s (appA T s.mem s.m.length argTypes.toList (args.toList.map (evA s.ts)) c)
  | op => ofOR o.dst s (opA T s.mem s.m.length (evA s.ts) op)
def opsA (T : TT) (S : ST) (ops : Array Oper) : List Oper → St → Out
  | [], s => .fin .norm s
  | o :: rest, s => match o.guard with
    | none => (doOp T S o s).bind (opsA T S ops rest)
    | some (j, want) => match (ops[j]?).bind (·.dst) with
      | none => opsA T S ops rest (s.put o.dst (.tup []))
      | some d => match s.ts.getD d .undef with
        | .bool b => if b = want then (doOp T S o s).bind (opsA T S ops rest) else opsA T S ops rest (s.put o.dst (.tup []))
        | .undef => .fail
        | _ => opsA T S ops rest (s.put o.dst (.tup []))
def CRpost (D : Nat → Prop) (ρ0 : Nat → Nat) (w0 : World) (ρ : Nat → Nat) (mem : Mem) (nxt : Nat) : CR → Ending → World → Prop
  | .val v up nw, e, w' => ∃ ρ' x, e = .returned x ∧ SR ρ' (memNew (memUp mem up) nxt nw) v x ∧ v ≠ .undef ∧ Inv D ρ0 w0 ρ' (memNew (memUp mem up) nxt nw) w' ∧ Later ρ mem ρ' (memNew (memUp mem up) nxt nw)
  | .pan v up nw, e, w' => ∃ ρ', e = .panicked [{ v := conc ρ' v, recovered := false }] ∧ solid v = true ∧ (∀ c ∈ refs v, memNew (memUp mem up) nxt nw c ≠ none) ∧ Inv D ρ0 w0 ρ' (memNew (memUp mem up) nxt nw) w' ∧ Later ρ mem ρ' (memNew (memUp mem up) nxt nw)
  | .any k, e, w' => ∃ n, CRpost D ρ0 w0 ρ mem nxt (k n) e w'
  | .fail, _, _ => False
def CallOk (P : Program) (f : FuncId) (args : Array Value) (w : World) (R : Ending → World → Prop) : Prop :=
  (∃ v w', (callFunc f args).run P w = .ok (.value v) w' ∧ R (.returned v) w') ∨ ((callFunc f args).run P w = .ok (.enter f args) w ∧ Calls P f args w R)
def CR.ok : CR → Prop
  | .fail => False
  | .any k => ∃ n, (k n).ok
  | _ => True
def CR.news : CR → Nat → Prop
  | .val _ _ nw, j => j < nw.length
  | .pan _ _ nw, j => j < nw.length
  | .any k, j => ∃ n, (k n).news j
  | .fail, _ => False
def SumOk (P : Program) (f : FuncId) (g : Sum) : Prop :=
  ∀ (args : List AV) (D : Nat → Prop) (ρ0 : Nat → Nat) (w0 : World) (ρ : Nat → Nat) (mem env : Mem) (nxt : Nat) (w : World),
    (∀ b blk, env b = some blk → mem b = some blk) → g args env nxt ≠ .fail → solidL args = true → (∀ c ∈ refsL args, mem c ≠ none) → (∀ j, (g args env nxt).news j → mem (nxt + j) = none) → Inv D ρ0 w0 ρ mem w →
    CallOk P f (args.map (conc ρ)).toArray w (CRpost D ρ0 w0 ρ mem nxt (g args env nxt))
def STok (P : Program) (S : ST) : Prop := ∀ f g, S f = some g → SumOk P f g
section
variable {P : Program} {D : Nat → Prop} {ρ0 ρ : Nat → Nat} {w0 w : World} {T : TT} {S : ST}
structure RS (D : Nat → Prop) (ρ0 : Nat → Nat) (w0 : World) (ρ : Nat → Nat) (s : St) (a : Act) (w : World) : Prop where
  inv : Inv D ρ0 w0 ρ s.mem w
  tmps : ∀ t, SR ρ s.mem (s.ts.getD t .undef) (a.tmps.getD t Go.undef)
  size : a.tmps.size = s.ts.length
  defers : a.defers = s.df.map fun d => { target := .fn (.func d.1) (concT ρ d.2).toArray, args := #[] }
  dref : ∀ d ∈ s.df, solidL d.2 = true ∧ ∀ c ∈ refsL d.2, s.mem c ≠ none
theorem St.fresh (s : St) (j : Nat) : s.mem (s.m.length + j) = none := by simp [St.mem]
theorem absV_spec (v : Value) (ρ : Nat → Nat) (mem : Mem) : SR ρ mem (absV v) v := by
  unfold absV
  split <;> first
    | exact .inl rfl
    | exact .inr ⟨rfl, rfl, by simp [refs, refsL]⟩
theorem RS.ev {s : St} {a : Act} (h : RS D ρ0 w0 ρ s a w) (x : Operand) : SR ρ s.mem (evA s.ts x) (a.eval x) := by
  cases x with
  | tmp t => exact h.tmps t
  | const v => exact absV_spec v ρ _
  | global g => exact .inl rfl
  | func f => exact .inr ⟨rfl, rfl, by simp [evA, refs, refsL]⟩
theorem RS.put {s : St} {a : Act} (h : RS D ρ0 w0 ρ s a w) {m' : List Blk} {ρ' : Nat → Nat} {w' : World} (hi : Inv D ρ0 w0 ρ' (fun b => m'[b]?) w') (hl : Later ρ s.mem ρ' fun b => m'[b]?) {v : AV} {x : Value}
    (hv : SR ρ' (fun b => m'[b]?) v x) (d : Option Tmp) : RS D ρ0 w0 ρ' (St.put { s with m := m' } d v) (a.put d x) w' := by
  have hd : a.defers = s.df.map fun d => { target := .fn (.func d.1) (concT ρ' d.2).toArray, args := #[] } := by
    rw [h.defers]
    apply List.map_congr_left
    intro d hd
    rw [concT_congr d.2 fun c hc => ((hl c ((h.dref d hd).2 c hc)).1).symm]
  have hr : ∀ d ∈ s.df, solidL d.2 = true ∧ ∀ c ∈ refsL d.2, (fun b => m'[b]?) c ≠ none := fun d hd => ⟨(h.dref d hd).1, fun c hc => (hl c ((h.dref d hd).2 c hc)).2⟩
  cases d with
  | none => exact ⟨hi, fun t => (h.tmps t).later hl, h.size, hd, hr⟩
  | some d =>
    refine ⟨hi, fun t => ?_, ?_, hd, hr⟩
    · simp only [St.put, Act.put, List.getD_eq_getElem?_getD, Array.getD_eq_getD_getElem?, List.getElem?_set, Array.getElem?_setIfInBounds, h.size]
      by_cases hdt : d = t
      · subst hdt
        by_cases hlt : d < s.ts.length
        · simp [hlt]; exact hv
        · simp [hlt]; exact .inl rfl
      · simp only [hdt, if_false]
        have := (h.tmps t).later hl
        simp only [List.getD_eq_getElem?_getD, Array.getD_eq_getD_getElem?] at this
        exact this
    · simp [St.put, Act.put, h.size]
def Post (D : Nat → Prop) (ρ0 : Nat → Nat) (w0 : World) (Q : Ex → St → Prop) (e : Exit) (a : Act) (w : World) : Prop :=
  ∃ x s ρ, RS D ρ0 w0 ρ s a w ∧ Q x s ∧ (match x with
    | .norm => e = .normal
    | .exit id => e = .exit id
    | .ret => e = .ret
    | .pan v => e = .panic [{ v := conc ρ v, recovered := false }] ∧ solid v = true ∧ ∀ c ∈ refs v, s.mem c ≠ none)
theorem Post.mono {Q Q' : Ex → St → Prop} (hq : ∀ x s, Q x s → Q' x s) {e : Exit} {a : Act} {w : World} (h : Post D ρ0 w0 Q e a w) : Post D ρ0 w0 Q' e a w :=
  let ⟨x, s, ρ, h1, h2, h3⟩ := h; ⟨x, s, ρ, h1, hq _ _ h2, h3⟩
theorem Act.put_other (a : Act) (d : Option Tmp) (x : Value) (t : Tmp) (h : d ≠ some t) : (a.put d x).tmps.getD t Go.undef = a.tmps.getD t Go.undef := by
  cases d with
  | none => rfl
  | some d =>
    have : d ≠ t := fun e => h (by rw [e])
    simp only [Act.put, Array.getD_eq_getD_getElem?, Array.getElem?_setIfInBounds, this, if_false]
theorem St.put_mem (s : St) (d : Option Tmp) (v : AV) : (s.put d v).mem = s.mem := by cases d <;> rfl
theorem arr_row {k : IntKind} {N : Nat} {f : Nat → Int} {o n : Nat} (hN : o + n ≤ N) (ρ : Nat → Nat) {b : Nat} {mem : Mem} {ty : TypeId} (h : Inv D ρ0 w0 ρ mem w) (hb : mem b = some ⟨[.arr k N f], ty⟩) :
    ∀ (j : Nat) (v : Value), ((List.range n).map fun j => Value.int k (f (o + j)))[j]? = some v → w.cell? ((⟨ρ b, o, none⟩ : Addr).add j) = some v := by
  intro j v hj
  rw [h.cells hb rfl j]
  have hjn : j < n := by
    rcases Nat.lt_or_ge j n with h' | h'
    · exact h'
    · rw [List.getElem?_eq_none (by simpa using h')] at hj; simp at hj
  simp only [List.getElem?_map, List.getElem?_range hjn, Option.map_some] at hj
  rw [← hj]
  simp [concC, conc, Value.cells, arrCells, show o + j < N from by omega]
theorem zerosK_cells {k : IntKind} (ρ : Nat → Nat) : ∀ {l : List AV}, zerosK k l = true → concC ρ l = List.replicate l.length (Value.int k 0)
  | [], _ => rfl
  | .int k' m :: l, h => by
    simp only [zerosK, Bool.and_eq_true, beq_iff_eq] at h
    obtain ⟨⟨rfl, rfl⟩, h⟩ := h
    simp only [concC, conc, Value.cells, List.length_cons, List.replicate_succ]
    rw [zerosK_cells ρ h]; rfl
  | .undef :: _, h | .bool _ :: _, h | .arr .. :: _, h | .agg _ :: _, h | .tup _ :: _, h | .ptr .. :: _, h | .nilptr :: _, h | .slice .. :: _, h | .nilslice :: _, h | .fn .. :: _, h | .mv .. :: _, h | .nilfn :: _, h | .iface .. :: _, h | .nilif :: _, h => by simp [zerosK] at h
theorem zeroK_cells {es : Nat} {ez : AV} {k : IntKind} (h : zeroK es ez = some k) (ρ : Nat → Nat) : (conc ρ ez).cells = (List.replicate es (Value.int k 0)).toArray ∧ 0 < es := by
  unfold zeroK at h
  split at h
  · rename_i k' m l hl
    split at h
    · rename_i hc
      obtain ⟨h1, h2⟩ := hc
      simp only [Option.some.injEq] at h
      subst h
      simp only [Bool.and_eq_true, beq_iff_eq] at h1
      obtain ⟨rfl, h3⟩ := h1
      refine ⟨?_, by omega⟩
      apply Array.toList_inj.1
      rw [← concC_items, hl]
      simp only [concC, conc, Value.cells]
      rw [zerosK_cells ρ h3, ← h2, List.replicate_succ]; rfl
    · simp at h
  · simp at h
def cellsK (k : IntKind) (m : Nat) (f : Nat → Int) (o : Nat) : List Value := (List.range m).map fun j => Value.int k (f (o + j))
theorem cellsK_length {k : IntKind} {m : Nat} {f : Nat → Int} {o : Nat} : (cellsK k m f o).length = m := by simp [cellsK]
theorem cellsK_one {k : IntKind} {m : Nat} {f : Nat → Int} {o : Nat} : ∀ u ∈ cellsK k m f o, u.oneCell' = true := by
  intro u hu
  simp only [cellsK, List.mem_map] at hu
  obtain ⟨j, -, rfl⟩ := hu
  rfl
theorem cellsK_get {k : IntKind} {m : Nat} {f : Nat → Int} {o j : Nat} : (cellsK k m f o)[j]? = if j < m then some (Value.int k (f (o + j))) else none := by
  unfold cellsK
  rw [List.getElem?_map]
  by_cases h : j < m
  · rw [if_pos h, List.getElem?_range h]; rfl
  · rw [if_neg h, List.getElem?_eq_none (by simpa using h)]; rfl
theorem rowK_row {es : Nat} {k : IntKind} {mem : Mem} {v : AV} {n o : Nat} {f : Nat → Int} (h : Inv D ρ0 w0 ρ mem w) (hr : rowK mem es k v = some (n, o, f)) :
    (v = .nilslice ∧ n = 0) ∨ ∃ p o1 c, v = .slice p o1 n c ∧ ∀ j u, (cellsK k (n * es) f o)[j]? = some u → w.cell? ((⟨ρ p, o1, none⟩ : Addr).add j) = some u := by
  unfold rowK at hr
  split at hr
  · simp only [Option.some.injEq, Prod.mk.injEq] at hr
    exact .inl ⟨rfl, hr.1.symm⟩
  · rename_i p o1 n1 c1
    unfold rowB at hr
    split at hr
    · rename_i k1 N f1 ty hp
      split at hr
      · rename_i hc
        obtain ⟨rfl, hN⟩ := hc
        simp only [Option.some.injEq, Prod.mk.injEq] at hr
        obtain ⟨rfl, rfl, rfl⟩ := hr
        exact .inr ⟨p, o1, c1, rfl, arr_row hN ρ h hp⟩
      · simp at hr
    · rename_i cs t0 fr k1 f1 S ty hp
      split at hr
      · rename_i hc
        obtain ⟨rfl, hN⟩ := hc
        simp only [Option.some.injEq, Prod.mk.injEq] at hr
        obtain ⟨rfl, rfl, rfl⟩ := hr
        refine .inr ⟨p, o1, c1, rfl, fun j u hj => ?_⟩
        have hrow := h.row p _ hp
        have hso := (h.ref p _ hp).2
        simp only [objOf, SolidB] at hrow hso
        rw [cellsK_get] at hj
        split at hj
        · rename_i hlt
          simp only [Option.some.injEq] at hj
          subst hj
          rw [Addr.add_lit, World.cell?, hrow]
          simpa using hso _ (covB_get hN hlt)
        · simp at hj
      · simp at hr
    · split at hr
      · rename_i hn
        simp only [Option.some.injEq, Prod.mk.injEq] at hr
        obtain ⟨rfl, rfl, rfl⟩ := hr
        subst hn
        exact .inr ⟨p, o1, c1, rfl, fun j u hj => by simp [cellsK] at hj⟩
      · simp at hr
    · simp at hr
  · simp at hr
theorem app_cells {k : IntKind} {a b c es o o' : Nat} {f g : Nat → Int} (hes : 0 < es) (ρ : Nat → Nat) :
    (concC ρ [.arr k (a + b + c * es) (catF a b f o g o')]).toArray = (cellsK k a f o).toArray ++ (cellsK k b g o').toArray ++ Builtin.zeroCells (List.replicate es (Value.int k 0)).toArray c := by
  apply Array.toList_inj.1
  apply List.ext_getElem?
  intro j
  have hz : (Builtin.zeroCells (List.replicate es (Value.int k 0)).toArray c).toList = List.replicate (c * es) (Value.int k 0) := by
    simp only [Builtin.zeroCells, List.size_toArray, List.length_replicate, Array.toList_map, Array.toList_range]
    apply List.ext_getElem?
    intro i
    rw [List.getElem?_map, List.getElem?_replicate]
    by_cases hi : i < c * es
    · rw [if_pos hi, List.getElem?_range hi]
      have : i % es < es := Nat.mod_lt _ hes
      simp [this]
    · rw [if_neg hi, List.getElem?_eq_none (by simpa using hi)]; rfl
  simp only [Array.toList_append, hz, concC, conc, Value.cells, arrCells, List.append_nil, List.getElem?_append, cellsK_length, cellsK_get, List.getElem?_map, List.getElem?_replicate, List.length_append]
  by_cases h1 : j < a
  · have h2 : j < a + b + c * es := by omega
    have h3 : j < a + b := by omega
    rw [List.getElem?_range h2]
    simp [h1, h3, catF]
  · by_cases h2 : j < a + b
    · have h3 : j < a + b + c * es := by omega
      have h4 : j - a < b := by omega
      rw [List.getElem?_range h3]
      simp [h1, h2, h4, catF]
    · by_cases h3 : j < a + b + c * es
      · have h5 : j - (a + b) < c * es := by omega
        rw [List.getElem?_range h3]
        simp [h1, h2, h5, catF]
      · have h5 : ¬ j - (a + b) < c * es := by omega
        rw [List.getElem?_eq_none (by simpa using h3)]
        simp [h2, h5]
theorem put_cells {k : IntKind} {N a m o' : Nat} {f g : Nat → Int} (h : a + m ≤ N) (ρ : Nat → Nat) :
    (concC ρ [.arr k N (putF f a m g o')]) = (concC ρ [.arr k N f]).take a ++ cellsK k m g o' ++ (concC ρ [.arr k N f]).drop (a + m) := by
  apply List.ext_getElem?
  intro j
  simp only [concC, conc, Value.cells, arrCells, List.append_nil, List.getElem?_append, List.getElem?_map, List.length_append, cellsK_length, List.length_take, List.length_map, List.length_range, List.getElem?_take, List.getElem?_drop, cellsK_get]
  have ha : min a N = a := by omega
  rw [ha]
  by_cases h1 : j < a
  · have h3 : j < a + m := by omega
    have h4 : ¬ (a ≤ j ∧ j < a + m) := by omega
    simp [h1, h3, show j < N from by omega, putF]
    intro h6; omega
  · by_cases h2 : j < a + m
    · have h4 : j - a < m := by omega
      have h5 : a ≤ j := by omega
      simp [h1, h2, h4, h5, show j < N from by omega, putF]
    · by_cases h3 : j < N
      · have h4 : ¬ (a ≤ j ∧ j < a + m) := by omega
        have h5 : a + m + (j - (a + m)) = j := by omega
        simp [h2, h3, h5, putF]
      · have h5 : a + m + (j - (a + m)) = j := by omega
        have h6 : (List.range N)[j]? = none := List.getElem?_eq_none (by simpa using h3)
        rw [if_neg (by omega), h5, h6]; rfl
theorem run_app_room (w : World) (t ty e : TypeId) (i : TypeInfo) (ht : P.underlying t = some (.slice e)) (hi : P.info? e = some i)
    (g off sLen sCap : Nat) (cur : Array Value) {e' : TypeId} (hg : w.heap[g]? = some (.cells cur e' (0, 0)))
    (a : Addr) (m c : Nat) (news : List Value) (hl : news.length = m * i.size) (hnews : ∀ j u, news[j]? = some u → w.cell? (a.add j) = some u) (h1 : ∀ u ∈ news, u.oneCell' = true)
    (hroom : sLen + m ≤ sCap) (hfit : off + sLen * i.size + news.length ≤ cur.size) :
    (Builtin.append_ #[t, t] ty #[.slice (some ⟨g, off, none⟩) sLen sCap, .slice (some a) m c]).run P w =
      .ok (.slice (some ⟨g, off, none⟩) (sLen + m) sCap) (w.setRow g (cur.toList.take (off + sLen * i.size) ++ news ++ cur.toList.drop (off + sLen * i.size + news.length)).toArray) := by
  have hf := run_firstCells_some (P := P) w i.size m a m c news hl hnews
  have hst := run_storeCells_at P g (off + sLen * i.size) e' news 0 cur w hg (by simpa using hfit) h1
  simp only [Nat.add_zero] at hst
  simp [Builtin.append_, run_underlying ht, sizeOf, typeInfo, hi, Builtin.lenOf, hroom, hf, Addr.add_lit, hst]
theorem run_app_nothing (w : World) (t ty e : TypeId) (i : TypeInfo) (ht : P.underlying t = some (.slice e)) (hi : P.info? e = some i) (base : Option Addr) (sLen sCap : Nat) (hle : sLen ≤ sCap) (x : Option Addr) (c : Nat) :
    (Builtin.append_ #[t, t] ty #[.slice base sLen sCap, .slice x 0 c]).run P w = .ok (.slice base sLen sCap) w := by
  have hx : (Builtin.firstCells i.size 0 (.slice x 0 c)).run P w = .ok #[] w := by
    cases x with
    | none => exact run_firstCells_none w i.size 0 0 c
    | some a => exact run_firstCells_some w i.size 0 a 0 c [] (by simp) (by simp)
  cases base <;> simp [Builtin.append_, run_underlying ht, sizeOf, typeInfo, hi, Builtin.lenOf, hle, hx, storeCells]
theorem callee_refs {v : AV} {as l : List AV} {id : FuncId} (h : callee v as = some (id, l)) : ∀ c ∈ refsL l, c ∈ refsL as ∨ c ∈ refs v := by
  intro c hc
  unfold callee at h
  split at h
  · simp only [Option.some.injEq, Prod.mk.injEq] at h
    obtain ⟨-, rfl⟩ := h
    rw [refsL_append, List.mem_append] at hc
    simpa [refs] using hc
  · simp only [Option.some.injEq, Prod.mk.injEq] at h
    obtain ⟨-, rfl⟩ := h
    rw [refsL_append, List.mem_append] at hc
    simpa [refs] using hc.symm
  · simp at h
theorem callee_ok {ev : Operand → AV} {aev : Operand → Value} {mem : Mem} (hev : ∀ x, SR ρ mem (ev x) (aev x)) {f : Operand} {args : Array Operand} {at_ : Array TypeId} {id : FuncId} {l : List AV} (hc : callee (ev f) (args.toList.map ev) = some (id, l)) (hs : solidL l = true) :
    (∀ c ∈ refsL l, mem c ≠ none) ∧ ∀ o : Oper, o.op = .call { callee := .value f, args := args, argTypes := at_ } → ∀ w, (execOp aev o).run P w = (callFunc id (l.map (conc ρ)).toArray).run P w := by
  have key : ∀ cap, solidL (args.toList.map ev) = true → (∀ c ∈ refsL cap, mem c ≠ none) → ∀ c, c ∈ refsL (args.toList.map ev) ∨ c ∈ refsL cap → mem c ≠ none := by
    intro cap h1 h2 c hc
    rcases hc with hc | hc
    · obtain ⟨u, hu, hc⟩ := mem_refsL.1 hc
      obtain ⟨x, -, rfl⟩ := List.mem_map.1 hu
      exact (hev x).refs_mem c hc
    · exact h2 c hc
  unfold callee at hc
  split at hc
  · rename_i id' cap hf
    simp only [Option.some.injEq, Prod.mk.injEq] at hc
    obtain ⟨rfl, rfl⟩ := hc
    obtain ⟨ef, sf, cf⟩ := (hev f).get (by rw [hf]; simp)
    rw [hf] at ef sf cf
    rw [solidL_append, Bool.and_eq_true] at hs
    have hargs := map_ev hev (l := args.toList) rfl (mem_solidL.1 hs.1)
    refine ⟨fun c hc => key cap hs.1 (fun c hc => cf c (by simpa [refs] using hc)) c (by rw [refsL_append, List.mem_append] at hc; exact hc), fun o ho w => ?_⟩
    unfold execOp
    rw [ho]
    simp only [resolve, ef, conc, Deferred.ofValue, Sem.run_bind, Sem.run_pure, Result.andThen_ok, invoke]
    congr 2
    apply Array.toList_inj.1
    simp [hargs, concT_eq]
  · rename_i id' first hf
    simp only [Option.some.injEq, Prod.mk.injEq] at hc
    obtain ⟨rfl, rfl⟩ := hc
    obtain ⟨ef, sf, cf⟩ := (hev f).get (by rw [hf]; simp)
    rw [hf] at ef sf cf
    rw [solidL_append, Bool.and_eq_true] at hs
    have hargs := map_ev hev (l := args.toList) rfl (mem_solidL.1 hs.2)
    refine ⟨fun c hc => key first hs.2 (fun c hc => cf c (by simpa [refs] using hc)) c (by rw [refsL_append, List.mem_append] at hc; exact hc.symm), fun o ho w => ?_⟩
    unfold execOp
    rw [ho]
    simp only [resolve, ef, conc, Deferred.ofValue, Sem.run_bind, Sem.run_pure, Result.andThen_ok, invoke]
    congr 2
    apply Array.toList_inj.1
    simp [hargs, concT_eq]
  · simp at hc
theorem doOp_ok (hT : TOk P T) (hS : STok P S) {o : Oper} {s : St} {a : Act} (h : RS D ρ0 w0 ρ s a w) {Q : Ex → St → Prop} (hg : Good (doOp T S o s) Q) {next : Act → World → Prop} {R : Exit → Act → World → Prop}
    (hn : ∀ s' ρ' a' w', RS D ρ0 w0 ρ' s' a' w' → Q .norm s' → Later ρ s.mem ρ' s'.mem → (∀ t, o.dst ≠ some t → a'.tmps.getD t Go.undef = a.tmps.getD t Go.undef) → next a' w') (hp : ∀ e a' w', Post D ρ0 w0 (Ex.seq (fun _ => False) Q) e a' w' → R e a' w') : o.wp P a w next R := by
  have plain : ∀ r : OR, doOp T S o s = ofOR o.dst s (opA T s.mem s.m.length (evA s.ts) o.op) → o.wp P a w next R := by
    intro _ hd
    rw [hd] at hg
    cases hr : opA T s.mem s.m.length (evA s.ts) o.op with
    | val v up nw =>
      rw [hr] at hg
      simp only [ofOR, Good] at hg
      obtain ⟨nx, w', ρ', x, c1, c2, c3, c4, c5⟩ := opA_ok hT h.inv (fun _ => show s.mem s.m.length = none from s.fresh 0) (fun x => h.ev x) hr
      rw [show s.mem = fun b => s.m[b]? from rfl, ← newM_mem] at c3 c4 c5
      have hput := h.put c4 c5 c3 o.dst
      unfold Oper.wp
      rw [c1]
      rcases c2 with rfl | ⟨rfl, rfl⟩
      · exact hn _ _ _ _ hput hg (by rw [St.put_mem]; exact c5) (Act.put_other a o.dst _)
      · exact hn _ _ _ _ hput hg (by rw [St.put_mem]; exact c5) (Act.put_other a o.dst _)
    | pan v up nw =>
      rw [hr] at hg
      simp only [ofOR, Good] at hg
      have : ∃ x t u, o.op = .panic x ∧ evA s.ts x = .iface t u ∧ v = .iface t u ∧ up = [] ∧ nw = [] := by
        unfold opA at hr
        split at hr <;> first
          | (split at hr <;> first
              | (simp at hr; done)
              | (split at hr <;> first
                  | (simp at hr; done)
                  | (split at hr <;> first
                      | (simp at hr; done)
                      | (split at hr <;> first
                          | (simp at hr; done)
                          | (split at hr <;> simp at hr; done))))
              | (rename_i x t u hx
                 injection hr with h1 h2 h3
                 exact ⟨_, _, _, by assumption, hx, h1.symm, h2.symm, h3.symm⟩))
          | (simp at hr; done)
      obtain ⟨x, t, u, ho, hx, rfl, rfl, rfl⟩ := this
      obtain ⟨ex, es, ec⟩ := (h.ev x).get (by rw [hx]; simp)
      rw [hx] at ex es ec
      unfold Oper.wp
      have : (execOp a.eval o).run P w = .halt (.panic (conc ρ (.iface t u))) w := by
        unfold execOp
        rw [ho]
        simp only [ex, conc, Instr.panic, Sem.run_bind, run_goPanic, Result.andThen_halt]
      rw [this]
      refine hp _ _ _ ⟨.pan (.iface t u), _, ρ, h, ?_, rfl, by simpa [okv] using es, ec⟩
      have e : ({ s with m := upM s.m [] ++ [] } : St) = s := by simp [upM]
      rw [e] at hg
      exact hg
    | fail => rw [hr] at hg; exact hg.elim
  unfold doOp at hg
  split at hg
  · -- a call
    rename_i f args at_ ho
    split at hg
    · rename_i id l hf
      split at hg
      · rename_i g hSid
        split at hg
        · rename_i hso
          obtain ⟨hrf, hexec0⟩ := callee_ok (P := P) (at_ := at_) (fun x => h.ev x) hf hso
          have hnf : g l s.mem s.m.length ≠ .fail := by
            intro e; rw [e] at hg; exact hg
          have hcall := hS id g hSid _ D ρ0 w0 ρ s.mem s.mem s.m.length w (fun _ _ h => h) hnf hso hrf (fun j _ => s.fresh j) h.inv
          have hexec : (execOp a.eval o).run P w = (callFunc id (l.map (conc ρ)).toArray).run P w := hexec0 o ho w
          have fin : ∀ (r : CR), Good (ofCR o.dst s r) Q → ∀ e w', CRpost D ρ0 w0 ρ s.mem s.m.length r e w' →
              match e with
              | .returned x => next (a.put o.dst x) w'
              | .panicked chain => R (.panic chain) a w'
              | .outgrown => LetsOut R := by
            intro r
            induction r with
            | val v up nw =>
              intro hg e w' hpost
              obtain ⟨ρ', x, rfl, c3, -, c4, c5⟩ := hpost
              rw [show s.mem = fun b => s.m[b]? from rfl, ← newM_mem] at c3 c4 c5
              exact hn _ _ _ _ (h.put c4 c5 c3 o.dst) hg (by rw [St.put_mem]; exact c5) (Act.put_other a o.dst _)
            | pan v up nw =>
              intro hg e w' hpost
              obtain ⟨ρ', rfl, c1, c2, c4, c5⟩ := hpost
              rw [show s.mem = fun b => s.m[b]? from rfl, ← newM_mem] at c2 c4 c5
              have := h.put c4 c5 (SR.undef _ _ Go.undef) none
              exact hp _ _ _ ⟨.pan v, _, ρ', this, hg, rfl, c1, c2⟩
            | any k ih =>
              intro hg e w' hpost
              obtain ⟨n, hpost⟩ := hpost
              exact ih n (hg n) e w' hpost
            | fail => intro hg; exact hg.elim
          unfold Oper.wp
          rw [hexec]
          rcases hcall with ⟨v, w', hr, hpost⟩ | ⟨hr, hcalls⟩
          · rw [hr]
            exact fin _ hg _ _ hpost
          · rw [hr]
            refine hcalls.mono fun e w' hpost => ?_
            have := fin _ hg e w' hpost
            cases e <;> exact this
        · exact hg.elim
      · exact hg.elim
    · exact hg.elim
  · -- a deferred call
    rename_i f args at_ ho
    split at hg
    · rename_i id cap hf
      split at hg
      · rename_i hem
        rw [Array.isEmpty_iff] at hem
        subst hem
        obtain ⟨ef, sf, cf⟩ := (h.ev f).get (by rw [hf]; simp)
        rw [hf] at ef sf cf
        have hexec : (execOp a.eval o).run P w = .ok (.defer { target := .fn (.func id) (concT ρ cap).toArray, args := #[] }) w := by
          unfold execOp
          rw [ho]
          simp [resolve, ef, conc, Deferred.ofValue]
        unfold Oper.wp
        rw [hexec]
        simp only [Good] at hg
        refine hn _ ρ _ w ?_ hg (by rw [St.put_mem]; exact Later.refl _ _) (fun t ht => Act.put_other _ o.dst _ t ht)
        have hbase : RS D ρ0 w0 ρ { s with df := (id, cap) :: s.df } { a with defers := { target := .fn (.func id) (concT ρ cap).toArray, args := #[] } :: a.defers } w := by
          refine ⟨h.inv, h.tmps, h.size, ?_, ?_⟩
          · simp [h.defers]
          · intro d hd
            simp only [List.mem_cons] at hd
            rcases hd with rfl | hd
            · exact ⟨by simpa [okv, solid] using sf, fun c hc => cf c (by simpa [refs] using hc)⟩
            · exact h.dref d hd
        exact hbase.put hbase.inv (Later.refl _ _) (.inr ⟨rfl, rfl, by simp [refs, refsL]⟩) o.dst
      · exact hg.elim
    · exact hg.elim
  · -- append
    rename_i args tys ho
    obtain ⟨c, hc⟩ : ∃ c : Nat, ∀ need cp e, needA T s.mem tys.toList (args.toList.map (evA s.ts)) = (need, cp, e) → c = grownCap w need cp e - need :=
      ⟨grownCap w (needA T s.mem tys.toList (args.toList.map (evA s.ts))).1 (needA T s.mem tys.toList (args.toList.map (evA s.ts))).2.1 (needA T s.mem tys.toList (args.toList.map (evA s.ts))).2.2 - (needA T s.mem tys.toList (args.toList.map (evA s.ts))).1, by
        intro need cp e h; rw [h]⟩
    have hgc : Good (ofOR o.dst s (appA T s.mem s.m.length tys.toList (args.toList.map (evA s.ts)) c)) Q := hg c
    clear hg plain
    unfold appA at hgc
    unfold needA at hc
    split at hgc
    · rename_i t t' d x htys hargs
      rw [htys, hargs] at hc
      simp only at hc
      split at hgc
      · rename_i e es eb ez a1 a2 a3 hT1
        rw [hT1] at hc
        simp only at hc
        split at hgc
        · rename_i k hz
          rw [hz] at hc
          simp only at hc
          split at hgc
          · rename_i n o1 f n' o' g hr1 hr2
            rw [hr1, hr2] at hc
            simp only at hc
            have hcc := hc _ _ _ rfl
            clear hc
            split at hgc
            · rename_i hcond
              obtain ⟨rfl, hneed, heb⟩ := hcond
              obtain ⟨hu, ⟨j, hj, hjs, hjb, hjz⟩, z1, z2, z3⟩ := (hT _ _ hT1).kind
              obtain ⟨x0, y0, hxy⟩ : ∃ x y, args = #[x, y] := by
                have : args.toList.length = 2 := by rw [← List.length_map (f := evA s.ts), hargs]; rfl
                match hl : args.toList, this with
                | [x, y], _ => exact ⟨x, y, Array.toList_inj.1 hl⟩
              obtain ⟨tt, htt⟩ : ∃ tt : Unit, tys = #[t, t] := ⟨(), Array.toList_inj.1 htys⟩
              subst hxy; subst htt
              simp only [List.map_cons, List.map_nil, List.cons.injEq, and_true] at hargs
              have hd0 : d ≠ .undef := by rintro rfl; simp [rowK] at hr1
              have hx0 : x ≠ .undef := by rintro rfl; simp [rowK] at hr2
              obtain ⟨ex, -, cx⟩ := (h.ev x0).get (by rw [hargs.1]; exact hd0)
              obtain ⟨ey, -, -⟩ := (h.ev y0).get (by rw [hargs.2]; exact hx0)
              rw [hargs.1] at ex cx; rw [hargs.2] at ey
              obtain ⟨hzc, hes⟩ := zeroK_cells hz id
              have k1 := rowK_row h.inv hr1
              have k2 := rowK_row h.inv hr2
              have hbytes : (n + n') * j.bytes ≤ 140737488355328 := by
                rw [hjb]; exact Nat.le_trans (Nat.mul_le_mul hneed heb) (by decide)
              have l1 : (cellsK k (n * es) f o1).length = n * j.size := by rw [cellsK_length, hjs]
              have l2 : (cellsK k (n' * es) g o').length = n' * j.size := by rw [cellsK_length, hjs]
              split at hgc
              · rename_i hcap
                obtain ⟨hcap, hsl⟩ := hcap
                have hce : grownCap w (n + n') (roomK d) e = n + n' + c := by
                  have hge : n + n' ≤ grownCap w (n + n') (roomK d) e := Nat.le_add_right _ _
                  omega
                have hrun : ∃ vx vd, conc ρ x = vx ∧ conc ρ d = vd ∧ (Builtin.append_ #[t, t] o.type #[vd, vx]).run P w =
                    .ok (.slice (some ⟨w.heap.size, 0, none⟩) (n + n') (n + n' + c)) (w.drew.alloc (.cells (concC ρ [.arr k ((n + n' + c) * es) (catF (n * es) (n' * es) f o1 g o')]).toArray e)) := by
                  have e3 : (n + n' + c) * es = n * es + n' * es + c * es := by rw [Nat.add_mul, Nat.add_mul]
                  rw [e3, app_cells hes ρ]
                  rcases k2 with ⟨rfl, -⟩ | ⟨q, oq, cq, rfl, hq⟩
                  · simp [isSl] at hsl
                  · rcases k1 with ⟨rfl, rfl⟩ | ⟨p, op, cp, rfl, hp⟩
                    · have hr := run_append_nil (P := P) w t o.type e j _ hu hj hjz ⟨ρ q, oq, none⟩ n' cq _ l2 hq (by simp only [roomK] at hcap; omega) (by omega) (by rw [Nat.zero_add] at hbytes; omega)
                      simp only [roomK, Nat.zero_add] at hce
                      rw [hce, hzc] at hr
                      refine ⟨_, _, rfl, rfl, ?_⟩
                      simp only [conc]
                      rw [hr]
                      simp [cellsK]
                    · have hfit : Builtin.nextslicecap (n + n') cp * j.bytes ≤ 281474976710656 := growslice_fits hcap hbytes
                      have hr := run_append_grow (P := P) w t o.type e j _ hu hj hjz ⟨ρ p, op, none⟩ n cp _ l1 hp ⟨ρ q, oq, none⟩ n' cq _ l2 hq hcap (by omega) hfit
                      simp only [roomK] at hce
                      rw [hce, hzc] at hr
                      refine ⟨_, _, rfl, rfl, ?_⟩
                      simp only [conc]
                      rw [hr]
                      simp
                obtain ⟨vx, vd, rfl, rfl, hrun⟩ := hrun
                obtain ⟨ρ', i1, i2, i3⟩ := h.inv.drew.alloc (n := s.m.length) (s.fresh 0) (l := [.arr k ((n + n' + c) * es) (catF (n * es) (n' * es) f o1 g o')]) e (by simp [solidL, solid]) (by simp [refsL, refs])
                have hexec : (execOp a.eval o).run P w = .ok (.value (.slice (some ⟨w.heap.size, 0, none⟩) (n + n') (n + n' + c))) (w.drew.alloc (.cells (concC ρ [.arr k ((n + n' + c) * es) (catF (n * es) (n' * es) f o1 g o')]).toArray e)) := by
                  unfold execOp
                  rw [ho]
                  simp [resolve, invoke, builtin, ex, ey, hrun]
                have e1 : memNew s.mem s.m.length [⟨[.arr k ((n + n' + c) * es) (catF (n * es) (n' * es) f o1 g o')], e⟩] = fun b => (upM s.m [] ++ [⟨[.arr k ((n + n' + c) * es) (catF (n * es) (n' * es) f o1 g o')], e⟩])[b]? := by
                  rw [newM_mem]; rfl
                rw [e1] at i1 i2
                unfold Oper.wp
                rw [hexec]
                refine hn _ _ _ _ (h.put i1 i2 (v := .slice s.m.length 0 (n + n') (n + n' + c)) ?_ o.dst) hgc (by rw [St.put_mem]; exact i2) (Act.put_other a o.dst _)
                refine .inr ⟨by simp only [conc, i3]; rfl, rfl, ?_⟩
                simp [refs, upM]
              · rename_i hcap
                split at hgc
                · rename_i hn0
                  subst hn0
                  split at hgc
                  · rename_i hle
                    have hrun : (Builtin.append_ #[t, t] o.type #[conc ρ d, conc ρ x]).run P w = .ok (conc ρ d) w := by
                      have hx' : ∃ xa cq, conc ρ x = .slice xa 0 cq := by
                        rcases k2 with ⟨rfl, -⟩ | ⟨q, oq, cq, rfl, hq⟩
                        · exact ⟨_, _, rfl⟩
                        · exact ⟨_, _, rfl⟩
                      obtain ⟨xa, cq, hx'⟩ := hx'
                      rw [hx']
                      rcases k1 with ⟨rfl, rfl⟩ | ⟨p, op, cp, rfl, hp⟩
                      · exact run_app_nothing w t o.type e j hu hj none 0 0 (Nat.le_refl _) xa cq
                      · exact run_app_nothing w t o.type e j hu hj (some ⟨ρ p, op, none⟩) n cp hle xa cq
                    have hexec : (execOp a.eval o).run P w = .ok (.value (conc ρ d)) w := by
                      unfold execOp
                      rw [ho]
                      simp [resolve, invoke, builtin, ex, ey, hrun]
                    have hdok : okv d = true := by
                      rcases k1 with ⟨rfl, rfl⟩ | ⟨p, op, cp, rfl, hp⟩ <;> rfl
                    unfold Oper.wp
                    rw [hexec]
                    have hs0 : ({ s with m := upM s.m [] ++ [] } : St) = s := by simp [upM]
                    simp only [ofOR, Good] at hgc
                    rw [hs0] at hgc
                    refine hn _ ρ _ w (h.put (m' := s.m) h.inv (Later.refl _ _) (v := d) (.inr ⟨rfl, hdok, cx⟩) o.dst) hgc (by rw [St.put_mem]; exact Later.refl _ _) (Act.put_other a o.dst _)
                  · exact hgc.elim
                · rename_i hn0
                  unfold roomA at hgc
                  split at hgc
                  · rename_i p op n1 cp
                    split at hgc
                    · rename_i k3 N f1 ty hp
                      split at hgc
                      · rename_i hN
                        obtain ⟨rfl, hN⟩ := hN
                        rcases k1 with ⟨hd, -⟩ | ⟨p1, op1, cp1, hd, hp1⟩
                        · simp at hd
                        · simp only [AV.slice.injEq] at hd
                          obtain ⟨rfl, rfl, rfl, rfl⟩ := hd
                          rcases k2 with ⟨-, hd⟩ | ⟨q, oq, cq, rfl, hq⟩
                          · exact absurd hd hn0
                          · have hroom : n1 + n' ≤ cp := by
                              simp only [isSl, roomK, and_true] at hcap
                              omega
                            have hrow := h.inv.row p _ hp
                            rw [objOf_not rfl] at hrow
                            have hNs : (concC ρ [AV.arr k3 N f1]).length = N := by simp [concC, conc, Value.cells, arrCells]
                            rw [Nat.add_mul] at hN
                            have hr := run_app_room (P := P) w t o.type e j hu hj (ρ p) op n1 cp _ hrow ⟨ρ q, oq, none⟩ n' cq _ l2 hq cellsK_one hroom (by
                              simp only [List.size_toArray, hNs, cellsK_length, hjs]; omega)
                            rw [cellsK_length, hjs, show (concC ρ [AV.arr k3 N f1]).toArray.toList = concC ρ [AV.arr k3 N f1] from rfl, ← put_cells (by omega) ρ] at hr
                            obtain ⟨i1, i2⟩ := h.inv.put hp rfl (l := [.arr k3 N (putF f1 (op + n1 * es) (n' * es) g o')]) (by simp [solidL, solid]) (by simp [refsL, refs])
                            have hexec : (execOp a.eval o).run P w = .ok (.value (.slice (some ⟨ρ p, op, none⟩) (n1 + n') cp)) (w.setRow (ρ p) (concC ρ [.arr k3 N (putF f1 (op + n1 * es) (n' * es) g o')]).toArray) := by
                              unfold execOp
                              rw [ho]
                              simp [resolve, invoke, builtin, ex, ey, conc, hr]
                            have e1 : memUp s.mem [(p, [.arr k3 N (putF f1 (op + n1 * es) (n' * es) g o')])] = fun b => (upM s.m [(p, [.arr k3 N (putF f1 (op + n1 * es) (n' * es) g o')])] ++ [])[b]? := by
                              rw [newM_mem, memNew_nil]; rfl
                            rw [e1] at i1 i2
                            unfold Oper.wp
                            rw [hexec]
                            refine hn _ _ _ _ (h.put i1 i2 (v := .slice p op (n1 + n') cp) ?_ o.dst) hgc (by rw [St.put_mem]; exact i2) (Act.put_other a o.dst _)
                            refine .inr ⟨rfl, rfl, ?_⟩
                            intro b hb
                            simp only [refs, List.mem_singleton] at hb
                            rw [hb]
                            exact (i2 p (by rw [hp]; simp)).2
                      · exact hgc.elim
                    · exact hgc.elim
                  · exact hgc.elim
            · exact hgc.elim
          · exact hgc.elim
        · exact hgc.elim
      · exact hgc.elim
    · exact hgc.elim
  · rename_i op hcall hdefer happ
    refine plain .fail ?_
    unfold doOp
    split
    · rename_i f args at_ ho; exact (hcall _ _ _ ho).elim
    · rename_i f args at_ ho; exact (hdefer _ _ _ ho).elim
    · rename_i args at_ ho; exact (happ _ _ ho).elim
    · rfl
end
end Go.X
end

section
namespace Go.X
def quiet : CR → Option (AV × List Blk)
  | .val v [] nw => some (v, nw)
  | _ => none
def doQ (T : TT) (S : ST) (o : Oper) (s : St) : Option (AV × List Blk) :=
  match o.op with
  | .call { callee := .value f, args, argTypes := _ } => match callee (evA s.ts f) (args.toList.map (evA s.ts)) with
    | some (id, l) => match S id with
      | some g => if solidL l then quiet (g l (envOf s.mem (refsL l)) s.m.length) else none
      | none => none
    | none => none
  | .defer _ => none
  | op => match opA T s.mem s.m.length (evA s.ts) op with
    | .val v [] nw => some (v, nw)
    | _ => none
def qStep (T : TT) (S : ST) (ops : Array Oper) (o : Oper) (s : St) : Option (AV × List Blk) :=
  match o.guard with
  | none => doQ T S o s
  | some (j, want) => match (ops[j]?).bind (·.dst) with
    | none => some (.tup [], [])
    | some d => match s.ts.getD d .undef with
      | .bool b => if b = want then doQ T S o s else some (.tup [], [])
      | .undef => none
      | _ => some (.tup [], [])
def qopsA (T : TT) (S : ST) (ops : Array Oper) : Nat → List Oper → St → Out
  | 0, l, s => opsA T S ops l s
  | _ + 1, [], s => .fin .norm s
  | k + 1, o :: rest, s => match qStep T S ops o s with
    | some (v, nw) => if (refs v).all (fun b => decide (b < s.m.length + nw.length)) then qopsA T S ops k rest (St.put { s with m := s.m ++ nw } o.dst v) else .fail
    | none => .fail
def without (ops : Array Oper) (f : Nat) : Array Oper := ops.modify f fun o => { o with dst := none }
def normOnly : Out → Out
  | .fin .norm s => .fin .norm s
  | .fin _ _ => .fail
  | .any k => .any fun n => normOnly (k n)
  | .fail => .fail
def floA (T : TT) (S : ST) (ops : Array Oper) (k f : Nat) (s : St) : Out :=
  match ops[f]? with
  | some o => match o.op with
    | .move x => normOnly (qopsA T S (without ops f) k (without ops f).toList (s.put o.dst (evA s.ts x)))
    | _ => .fail
  | none => .fail
def keepO (n0 : Nat) (s : St) (o : Oper) : Bool := o.guard.isNone && match o.op with
  | .store _ a _ => (match evA s.ts a with
    | .ptr b _ => decide (n0 ≤ b)
    | _ => false)
  | .assign _ => true
  | _ => false
def opsK (T : TT) (S : ST) (ops : Array Oper) (n0 : Nat) : List Oper → St → Out
  | [], s => .fin .norm s
  | o :: rest, s => if keepO n0 s o = true then (doOp T S o s).bind (opsK T S ops n0 rest) else .fail
def tameO (n0 : Nat) (s : St) (o : Oper) : Bool := match o.op with
  | .load _ a => (match evA s.ts a with
    | .ptr b _ => decide (b < n0)
    | _ => false)
  | _ => true
def qopsH (T : TT) (S : ST) (ops : Array Oper) (n0 : Nat) (F : List Nat) : Nat → Nat → List Oper → St → Out
  | _, 0, l, s => opsK T S ops n0 l s
  | _, _ + 1, [], _ => .fail
  | i, k + 1, o :: rest, s => if (!F.contains i || tameO n0 s o) = true then match qStep T S ops o s with
    | some (v, nw) => if (refs v).all (fun b => decide (b < s.m.length + nw.length)) then qopsH T S ops n0 F (i + 1) k rest (St.put { s with m := s.m ++ nw } o.dst v) else .fail
    | none => .fail
    else .fail
def allOf : List Out → Out
  | [] => .fail
  | [a] => a
  | a :: b :: l => .any fun n => if n = 0 then a else allOf (b :: l)
def pickO (ops : Array Oper) (p : List Nat) : List Oper := p.filterMap (ops[·]?)
inductive DM where
  | quiet (k : Nat)
  | flo (k f : Nat)
  | orders (l : List (List Nat))
  | eager (k f : Nat)
  | held (k : Nat) (F : List Nat)
  | calm (k : Nat) (F : List Nat)
  | dag (g : Array (Nat × List (Nat × Nat)))
def edges (T : TT) (S : ST) (ops : Array Oper) (f : Nat → St → Out) : List (Nat × Nat) → St → List Out
  | [], _ => []
  | (i, j) :: l, s => (opsA T S ops (pickO ops [i]) s).bind (f j) :: edges T S ops f l s
def dag0 (r : Option (Nat × List (Nat × Nat))) (s : St) : Out := match r with
  | some (_, []) => .fin .norm s
  | _ => .fail
def dagS (T : TT) (S : ST) (ops : Array Oper) (f : Nat → St → Out) (r : Option (Nat × List (Nat × Nat))) (s : St) : Out := match r with
  | some (_, []) => .fin .norm s
  | some (_, p :: l) => allOf (edges T S ops f (p :: l) s)
  | none => .fail
def dagA (T : TT) (S : ST) (ops : Array Oper) (g : Array (Nat × List (Nat × Nat))) : Nat → Nat → St → Out
  | 0, node, s => dag0 g[node]? s
  | n + 1, node, s => dagS T S ops (dagA T S ops g n) g[node]? s
def drawA (T : TT) (S : ST) (d : Option DM) (ops : Array Oper) (s : St) : Out :=
  match d with
  | none => qopsA T S ops ops.size ops.toList s
  | some (.quiet k) => qopsA T S ops k ops.toList s
  | some (.flo k f) => floA T S ops k f s
  | some (.orders l) => allOf (l.map fun p => opsA T S ops (pickO ops p) s)
  | some (.eager k _) => normOnly (qopsA T S ops k ops.toList s)
  | some (.held k F) => normOnly (qopsH T S ops s.m.length F 0 k ops.toList s)
  | some (.calm k F) => normOnly (qopsH T S ops 0 F 0 k ops.toList s)
  | some (.dag g) => dagA T S ops g ops.size 0 s
def loopA (f : St → Out) : Nat → St → Out
  | 0, _ => .fail
  | n + 1, s => (f s).bind (loopA f n)
def unblock (id : Nat) : Out → Out
  | .fin (.exit i) s => if i = id then .fin .norm s else .fin (.exit i) s
  | .fin x s => .fin x s
  | .any k => .any fun n => unblock id (k n)
  | .fail => .fail
def exec (T : TT) (S : ST) (L : Nat → Option DM) (n : Nat) : Code → St → Out
  | .skip, s => .fin .norm s
  | .label _, s => .fin .norm s
  | .region _ ops false, s => opsA T S ops ops.toList s
  | .region id ops true, s => drawA T S (L id) ops s
  | .seq a b, s => (exec T S L n a s).bind (exec T S L n b)
  | .cond c x y, s => match evA s.ts c with
    | .bool b => if b = true then exec T S L n x s else exec T S L n y s
    | _ => .fail
  | .block id c, s => unblock id (exec T S L n c s)
  | .loop c, s => loopA (exec T S L n c) n s
  | .scope c, s => exec T S L n c s
  | .exit id, s => .fin (.exit id) s
  | .ret, s => .fin .ret s
  | _, _ => .fail
section
variable {P : Program} {D : Nat → Prop} {ρ0 ρ : Nat → Nat} {w0 w : World} {T : TT} {S : ST}
theorem yielded_ok {ops : Array Oper} {s : St} {a : Act} (h : RS D ρ0 w0 ρ s a w) {j : Nat} {d : Tmp} (hd : (ops[j]?).bind (·.dst) = some d) :
    (∀ b, s.ts.getD d .undef = .bool b → yielded ops a.tmps j = some b) ∧ (s.ts.getD d .undef ≠ .undef → (∀ b, s.ts.getD d .undef ≠ .bool b) → yielded ops a.tmps j = none) := by
  have ht := h.tmps d
  have hlt : s.ts.getD d .undef ≠ .undef → a.tmps[d]? = some (a.tmps.getD d Go.undef) := by
    intro hne
    have : d < s.ts.length := by
      rcases Nat.lt_or_ge d s.ts.length with h' | h'
      · exact h'
      · rw [List.getD_eq_getElem?_getD, List.getElem?_eq_none h'] at hne; simp at hne
    have h2 : d < a.tmps.size := by rw [h.size]; exact this
    simp [h2]
  refine ⟨fun b hb => ?_, fun hne hnb => ?_⟩
  · have h1 := hlt (by rw [hb]; simp)
    rw [hb] at ht
    obtain ⟨e, -, -⟩ := ht.get (by simp)
    unfold yielded
    rw [hd, Option.bind_some, h1, e]
    rfl
  · have h1 := hlt hne
    obtain ⟨e, -, -⟩ := ht.get hne
    unfold yielded
    rw [hd, Option.bind_some, h1, e]
    cases hv : s.ts.getD d .undef <;> first
      | (exact absurd hv (hnb _))
      | (exact absurd hv hne)
      | rfl
theorem RS.skip {s : St} {a : Act} (h : RS D ρ0 w0 ρ s a w) (d : Option Tmp) : RS D ρ0 w0 ρ (s.put d (.tup [])) (a.put d Go.undef) w :=
  h.put h.inv (Later.refl _ _) (.inr ⟨rfl, rfl, by simp [refs, refsL]⟩) d
theorem opsA_ok (hT : TOk P T) (hS : STok P S) {ops : Array Oper} {Q : Ex → St → Prop} : ∀ (l : List Oper) {s : St} {ρ : Nat → Nat} {a : Act} {w : World}, RS D ρ0 w0 ρ s a w → Good (opsA T S ops l s) Q →
    wpList P ops (Post D ρ0 w0 Q) l a w
  | [], s, ρ, a, w, h, hg => ⟨.norm, s, ρ, h, hg, rfl⟩
  | o :: rest, s, ρ, a, w, h, hg => by
    have run : Good ((doOp T S o s).bind (opsA T S ops rest)) Q → o.wp P a w (wpList P ops (Post D ρ0 w0 Q) rest) (Post D ρ0 w0 Q) := by
      intro hg
      refine doOp_ok hT hS h hg.bind (fun s' ρ' a' w' h' hq _ _ => opsA_ok hT hS rest h' hq) (fun e a' w' hp => ?_)
      obtain ⟨x, s', ρ', h1, h2, h3⟩ := hp
      cases x with
      | norm => exact h2.elim
      | exit id => exact ⟨_, s', ρ', h1, h2, h3⟩
      | ret => exact ⟨_, s', ρ', h1, h2, h3⟩
      | pan v => exact ⟨_, s', ρ', h1, h2, h3⟩
    unfold opsA at hg
    unfold wpList
    split at hg
    · rename_i hgd
      rw [if_pos (by simp [Region.wanted, hgd])]
      exact .inl (run hg)
    · rename_i j want hgd
      split at hg
      · rename_i hd
        have : yielded ops a.tmps j = none := by unfold yielded; rw [hd]; rfl
        rw [if_neg (by simp [Region.wanted, hgd, this])]
        exact opsA_ok hT hS rest (h.skip o.dst) hg
      · rename_i d hd
        obtain ⟨y1, y2⟩ := yielded_ok h hd
        split at hg
        · rename_i b hb
          have hy := y1 b hb
          split at hg
          · rename_i hbw
            rw [if_pos (by simp [Region.wanted, hgd, hy, hbw])]
            exact .inl (run hg)
          · rename_i hbw
            rw [if_neg (by simp [Region.wanted, hgd, hy, hbw])]
            exact opsA_ok hT hS rest (h.skip o.dst) hg
        · exact hg.elim
        · rename_i hnb hnu
          have hy := y2 hnu hnb
          rw [if_neg (by simp [Region.wanted, hgd, hy])]
          exact opsA_ok hT hS rest (h.skip o.dst) hg
theorem Good.unblock {Q : Ex → St → Prop} {id : Nat} : ∀ {o : Out}, Good (unblock id o) Q → Good o fun x s => match x with | .exit i => if i = id then Q .norm s else Q (.exit i) s | x => Q x s
  | .fin x s, h => by
    cases x with
    | exit i =>
      simp only [X.unblock] at h
      show (if i = id then Q .norm s else Q (.exit i) s)
      by_cases hi : i = id
      · rw [if_pos hi] at h ⊢; exact h
      · rw [if_neg hi] at h ⊢; exact h
    | _ => exact h
  | .any k, h => fun n => Good.unblock (h n)
  | .fail, h => h
def drawsOk (chk : Array Oper → Option DM → Bool) (L : Nat → Option DM) : Code → Bool
  | .region id ops true => chk ops (L id)
  | .seq a b => drawsOk chk L a && drawsOk chk L b
  | .cond _ a b => drawsOk chk L a && drawsOk chk L b
  | .block _ c => drawsOk chk L c
  | .loop c => drawsOk chk L c
  | .scope c => drawsOk chk L c
  | _ => true
theorem wp_loop_good {c : Code} {f : St → Out} (hc : ∀ {Q : Ex → St → Prop} {s : St} {ρ : Nat → Nat} {a : Act} {w : World}, RS D ρ0 w0 ρ s a w → Good (f s) Q → c.wp P (Post D ρ0 w0 Q) a w) {Q : Ex → St → Prop} :
    ∀ (n : Nat) {s : St} {ρ : Nat → Nat} {a : Act} {w : World}, RS D ρ0 w0 ρ s a w → Good (loopA f n s) Q → Code.rounds P c (Post D ρ0 w0 Q) n a w
  | 0, _, _, _, _, _, hg => hg.elim
  | n + 1, s, ρ, a, w, h, hg => by
    rw [rounds_succ]
    refine wp_mono (hc h hg.bind) fun e a' w' hp => ?_
    obtain ⟨x, s', ρ', h1, h2, h3⟩ := hp
    cases x with
    | norm => subst h3; exact wp_loop_good hc n h1 h2
    | exit id => subst h3; exact ⟨_, s', ρ', h1, h2, rfl⟩
    | ret => subst h3; exact ⟨_, s', ρ', h1, h2, rfl⟩
    | pan v => obtain ⟨rfl, h3⟩ := h3; exact ⟨_, s', ρ', h1, h2, rfl, h3⟩
def DrawSound (P : Program) (chk : Array Oper → Option DM → Bool) : Prop :=
  ∀ (D : Nat → Prop) (ρ0 : Nat → Nat) (w0 : World) (T : TT) (S : ST), TOk P T → STok P S → ∀ (ops : Array Oper) (d : Option DM) (id : Nat), chk ops d = true → ∀ (Q : Ex → St → Prop) (s : St) (ρ : Nat → Nat) (a : Act) (w : World),
    RS D ρ0 w0 ρ s a w → Good (drawA T S d ops s) Q → (Code.region id ops true).wp P (Post D ρ0 w0 Q) a w
theorem Post.noGoto {Q : Ex → St → Prop} {e : Exit} {a : Act} {w : World} (h : Post D ρ0 w0 Q e a w) : Exit.noGoto (Post D ρ0 w0 Q) e a w := by
  obtain ⟨x, s, ρ', h1, h2, h3⟩ := h
  cases x with
  | norm => subst h3; exact ⟨.norm, s, ρ', h1, h2, rfl⟩
  | exit id => subst h3; exact ⟨.exit id, s, ρ', h1, h2, rfl⟩
  | ret => subst h3; exact ⟨.ret, s, ρ', h1, h2, rfl⟩
  | pan v => obtain ⟨rfl, h4⟩ := h3; exact ⟨.pan v, s, ρ', h1, h2, rfl, h4⟩
theorem exec_ok {chk : Array Oper → Option DM → Bool} (hchk : DrawSound P chk) (hT : TOk P T) (hS : STok P S) {L : Nat → Option DM} {n : Nat} : ∀ (c : Code) {Q : Ex → St → Prop} {s : St} {ρ : Nat → Nat} {a : Act} {w : World}, drawsOk chk L c = true →
    RS D ρ0 w0 ρ s a w → Good (exec T S L n c s) Q → c.wp P (Post D ρ0 w0 Q) a w
  | .skip, Q, s, ρ, a, w, _, h, hg => wp_skip ⟨.norm, s, ρ, h, hg, rfl⟩
  | .label _, Q, s, ρ, a, w, _, h, hg => wp_label ⟨.norm, s, ρ, h, hg, rfl⟩
  | .region id ops false, Q, s, ρ, a, w, _, h, hg => wp_region_list (opsA_ok hT hS _ h hg)
  | .region id ops true, Q, s, ρ, a, w, hd, h, hg => hchk D ρ0 w0 T S hT hS ops _ id hd Q s ρ a w h hg
  | .seq x y, Q, s, ρ, a, w, hd, h, hg => by
    simp only [drawsOk, Bool.and_eq_true] at hd
    refine wp_seq (wp_mono (exec_ok hchk hT hS x hd.1 h hg.bind) fun e a' w' hp => ?_)
    obtain ⟨z, s', ρ', h1, h2, h3⟩ := hp
    cases z with
    | norm => subst h3; exact exec_ok hchk hT hS y hd.2 h1 h2
    | exit id => subst h3; exact ⟨_, s', ρ', h1, h2, rfl⟩
    | ret => subst h3; exact ⟨_, s', ρ', h1, h2, rfl⟩
    | pan v => obtain ⟨rfl, h3⟩ := h3; exact ⟨_, s', ρ', h1, h2, rfl, h3⟩
  | .cond c x y, Q, s, ρ, a, w, hd, h, hg => by
    simp only [drawsOk, Bool.and_eq_true] at hd
    simp only [exec] at hg
    split at hg
    · rename_i b hb
      obtain ⟨e, -, -⟩ := (h.ev c).get (by rw [hb]; simp)
      rw [hb] at e
      refine wp_cond (t := b) e ?_
      split at hg
      · rename_i hbt; rw [if_pos hbt]; exact exec_ok hchk hT hS x hd.1 h hg
      · rename_i hbt; rw [if_neg hbt]; exact exec_ok hchk hT hS y hd.2 h hg
    · exact hg.elim
  | .block id c, Q, s, ρ, a, w, hd, h, hg => by
    refine wp_block (wp_mono (exec_ok hchk hT hS c hd h (Good.unblock hg)) fun e a' w' hp => ?_)
    obtain ⟨z, s', ρ', h1, h2, h3⟩ := hp
    cases z with
    | norm => subst h3; exact ⟨_, s', ρ', h1, h2, rfl⟩
    | exit i =>
      subst h3
      show if i = id then _ else _
      by_cases hi : i = id
      · rw [if_pos hi]; simp only [hi, if_true] at h2; exact ⟨_, s', ρ', h1, h2, rfl⟩
      · rw [if_neg hi]; simp only [hi, if_false] at h2; exact ⟨_, s', ρ', h1, h2, rfl⟩
    | ret => subst h3; exact ⟨_, s', ρ', h1, h2, rfl⟩
    | pan v => obtain ⟨rfl, h3⟩ := h3; exact ⟨_, s', ρ', h1, h2, rfl, h3⟩
  | .loop c, Q, s, ρ, a, w, hd, h, hg => wp_loop_rounds n (wp_loop_good (fun h hg => exec_ok hchk hT hS c hd h hg) n h hg)
  | .exit id, Q, s, ρ, a, w, _, h, hg => wp_exit ⟨.exit id, s, ρ, h, hg, rfl⟩
  | .ret, Q, s, ρ, a, w, _, h, hg => wp_ret ⟨.ret, s, ρ, h, hg, rfl⟩
  | .rangeFunc .., Q, s, ρ, a, w, _, h, hg => hg.elim
  | .scope c, Q, s, ρ, a, w, hd, h, hg => wp_scope_straight (wp_mono (exec_ok hchk hT hS c hd h hg) fun _ _ _ hp => hp.noGoto)
  | .goto _, Q, s, ρ, a, w, _, h, hg => hg.elim
  | .refuse _, Q, s, ρ, a, w, _, h, hg => hg.elim
end
end Go.X
end

section
namespace Go.X
def res1 (T : TT) (s : St) : ResultVar → Option AV
  | .tmp t => if okv (s.ts.getD t .undef) then some (s.ts.getD t .undef) else none
  | .cell a t => loadA T s.mem t (s.ts.getD a .undef)
def resL (T : TT) (s : St) : List ResultVar → Option (List AV)
  | [] => some []
  | r :: l => match res1 T s r, resL T s l with
    | some v, some vs => some (v :: vs)
    | _, _ => none
def resA (T : TT) (s : St) (l : List ResultVar) : Option AV :=
  match resL T s l with
  | some [v] => some v
  | some vs => if solidL vs then some (.tup vs) else none
  | none => none
def initS (args : List AV) (ntmps : Nat) (m : List Blk) : St := ⟨args ++ List.replicate (ntmps - args.length) (.tup []), m, []⟩
def Ends (T : TT) (rs : List ResultVar) (R : AV → List Blk → Prop) (R' : AV → List Blk → Prop) (x : Ex) (s : St) : Prop :=
  match x with
  | .norm => s.df = [] ∧ ∃ v, resA T s rs = some v ∧ R v s.m
  | .ret => s.df = [] ∧ ∃ v, resA T s rs = some v ∧ R v s.m
  | .pan v => s.df = [] ∧ R' v s.m
  | .exit _ => False
section
variable {P : Program} {D : Nat → Prop} {ρ0 ρ : Nat → Nat} {w0 w : World} {T : TT} {S : ST} {mem : Mem} {m : List Blk}
def rrun (tmps : Array Value) : ResultVar → Sem Value
  | .tmp t => pure (tmps.getD t Go.undef)
  | .cell x t => do loadVar t (← asAddr (tmps.getD x Go.undef))
theorem results_eq (fn : Func) (tmps : Array Value) : results fn tmps = (do let vs ← fn.results.mapM (rrun tmps); pure (if h : vs.size = 1 then vs[0] else .tuple vs)) := by
  unfold results
  have e : (fun | .tmp t => pure (tmps.getD t Go.undef) | .cell a t => do loadVar t (← asAddr (tmps.getD a Go.undef)) : ResultVar → Sem Value) = rrun tmps := by funext r; cases r <;> rfl
  rw [← e]
  rfl
theorem res1_ok (hT : TOk P T) {s : St} {a : Act} (h : RS D ρ0 w0 ρ s a w) {r : ResultVar} {v : AV} (hr : res1 T s r = some v) :
    (rrun a.tmps r).run P w = .ok (conc ρ v) w ∧ okv v = true ∧ ∀ c ∈ refs v, s.mem c ≠ none := by
  cases r with
  | tmp t =>
    simp only [res1] at hr
    split at hr
    · rename_i hok
      simp only [Option.some.injEq] at hr
      subst hr
      obtain ⟨e1, e2, e3⟩ := (h.tmps t).get (by intro e; rw [e] at hok; simp [okv, solid] at hok)
      exact ⟨by simp only [rrun, e1]; rfl, e2, e3⟩
    · simp at hr
  | cell x t =>
    simp only [res1] at hr
    obtain ⟨l1, l2, l3⟩ := load_ok hT h.inv hr (h.tmps x)
    refine ⟨?_, l2, l3⟩
    have hp : ∃ b o, s.ts.getD x .undef = .ptr b o := by
      revert hr
      generalize s.ts.getD x AV.undef = q
      intro hr
      cases q <;> first | exact ⟨_, _, rfl⟩ | (simp [loadA] at hr)
    obtain ⟨b, o, hb⟩ := hp
    obtain ⟨e1, -, -⟩ := (h.tmps x).get (by rw [hb]; simp)
    rw [hb, conc] at e1
    rw [e1] at l1
    simp only [rrun, e1]
    simpa [Instr.loadAt, Instr.sureAddr, asAddr] using l1
theorem resL_ok (hT : TOk P T) {s : St} {a : Act} (h : RS D ρ0 w0 ρ s a w) : ∀ {l : List ResultVar} {vs : List AV}, resL T s l = some vs →
    (l.mapM (rrun a.tmps)).run P w = .ok (vs.map (conc ρ)) w ∧ (∀ v ∈ vs, okv v = true) ∧ ∀ c ∈ refsL vs, s.mem c ≠ none
  | [], vs, hr => by simp only [resL, Option.some.injEq] at hr; subst hr; simp [refsL]
  | r :: l, vs, hr => by
    simp only [resL] at hr
    split at hr
    · rename_i v vs' h1 h2
      simp only [Option.some.injEq] at hr
      subst hr
      obtain ⟨a1, a2, a3⟩ := res1_ok hT h h1
      obtain ⟨b1, b2, b3⟩ := resL_ok hT h h2
      refine ⟨?_, ?_, ?_⟩
      · rw [List.mapM_cons]
        simp only [Sem.run_bind, a1, b1, Result.andThen_ok, Sem.run_pure, List.map_cons]
      · intro u hu
        simp only [List.mem_cons] at hu
        rcases hu with rfl | hu
        · exact a2
        · exact b2 u hu
      · intro c hc
        simp only [refsL, List.mem_append] at hc
        rcases hc with hc | hc
        · exact a3 c hc
        · exact b3 c hc
    · simp at hr
theorem resA_ok (hT : TOk P T) {fn : Func} {s : St} {a : Act} (h : RS D ρ0 w0 ρ s a w) {v : AV} (hr : resA T s fn.results.toList = some v) :
    (results fn a.tmps).run P w = .ok (conc ρ v) w ∧ okv v = true ∧ ∀ c ∈ refs v, s.mem c ≠ none := by
  unfold resA at hr
  have main : ∀ vs, resL T s fn.results.toList = some vs → (results fn a.tmps).run P w = .ok (match vs with | [v] => conc ρ v | vs => .tuple (concT ρ vs).toArray) w ∧ (∀ v ∈ vs, okv v = true) ∧ ∀ c ∈ refsL vs, s.mem c ≠ none := by
    intro vs hvs
    obtain ⟨h1, h2, h3⟩ := resL_ok hT h hvs
    refine ⟨?_, h2, h3⟩
    rw [results_eq, Array.mapM_eq_mapM_toList]
    simp only [Sem.run_bind, Sem.run_map, h1, Result.andThen_ok, Sem.run_pure]
    match vs with
    | [] => simp [concT]
    | [v] => simp
    | v :: u :: vs => simp [concT_eq]
  split at hr
  · rename_i u hu
    simp only [Option.some.injEq] at hr
    subst hr
    obtain ⟨m1, m2, m3⟩ := main _ hu
    exact ⟨m1, m2 _ (by simp), by simpa [refsL] using m3⟩
  · rename_i vs hn hvs
    split at hr
    · rename_i hso
      simp only [Option.some.injEq] at hr
      subst hr
      obtain ⟨m1, m2, m3⟩ := main _ hvs
      refine ⟨?_, hso, by simpa [refs] using m3⟩
      rw [m1]
      match vs, hn with
      | [], _ => rfl
      | [v], hn => exact (hn v rfl).elim
      | v :: u :: vs, _ => rfl
    · simp at hr
  · simp at hr
theorem init_ok (h : Inv D ρ0 w0 ρ (fun b => m[b]?) w) {args : List AV} (ha : solidL args = true) (hr : ∀ c ∈ refsL args, (fun b => m[b]?) c ≠ none) (n : Nat) :
    RS D ρ0 w0 ρ (initS args n m) { tmps := (args.map (conc ρ)).toArray ++ Array.replicate (n - (args.map (conc ρ)).toArray.size) Go.undef, defers := [] } w := by
  refine ⟨h, fun t => ?_, by simp [initS], rfl, by simp [initS]⟩
  simp only [initS, List.getD_eq_getElem?_getD, Array.getD_eq_getD_getElem?, Array.getElem?_append, List.getElem?_append, List.size_toArray, List.length_map]
  by_cases ht : t < args.length
  · simp only [ht, if_true, List.getElem?_toArray, List.getElem?_map, List.getElem?_eq_getElem ht, Option.map_some, Option.getD_some]
    have hm : args[t] ∈ args := List.getElem_mem ht
    exact .inr ⟨rfl, okv_of_solid (mem_solidL.1 ha _ hm), fun c hc => hr c (mem_refsL.2 ⟨_, hm, hc⟩)⟩
  · simp only [ht, if_false, List.getElem?_replicate, Array.getElem?_replicate]
    by_cases h2 : t - args.length < n - args.length
    · simp only [h2, if_true, Option.getD_some]
      exact .inr ⟨rfl, rfl, by simp [refs, refsL]⟩
    · simp only [h2, if_false, Option.getD_none]
      exact .inl rfl
theorem calls_ok {chk : Array Oper → Option DM → Bool} (hchk : DrawSound P chk) (hT : TOk P T) (hS : STok P S) {L : Nat → Option DM} {n : Nat} {f : FuncId} {fn : Func} {c : Code} (hf : P.funcs[f]? = some fn) (hb : fn.body = some c) (hd : drawsOk chk L c = true)
    (h : Inv D ρ0 w0 ρ (fun b => m[b]?) w) {args : List AV} (ha : solidL args = true) (hr : ∀ c ∈ refsL args, (fun b => m[b]?) c ≠ none) {R R' : AV → List Blk → Prop}
    (hg : Good (exec T S L n c (initS args fn.ntmps m)) (Ends T fn.results.toList R R')) :
    Calls P f (args.map (conc ρ)).toArray w fun e w' => ∃ ρ' v m', Inv D ρ0 w0 ρ' (fun b => m'[b]?) w' ∧ (∀ c ∈ refs v, (fun b => m'[b]?) c ≠ none) ∧ okv v = true ∧
      ((e = .returned (conc ρ' v) ∧ R v m') ∨ (e = .panicked [{ v := conc ρ' v, recovered := false }] ∧ solid v = true ∧ R' v m')) := by
  refine calls_of_wp hf hb (wp_mono (exec_ok hchk hT hS c hd (init_ok h ha hr fn.ntmps) hg) fun e a w' hp => ?_)
  obtain ⟨x, s, ρ', h1, h2, h3⟩ := hp
  cases x with
  | norm =>
    subst h3
    obtain ⟨hdf, v, hv, hR⟩ := h2
    obtain ⟨r1, r2, r3⟩ := resA_ok hT h1 hv
    exact ⟨by rw [h1.defers, hdf]; rfl, _, r1, ρ', v, s.m, h1.inv, r3, r2, .inl ⟨rfl, hR⟩⟩
  | ret =>
    subst h3
    obtain ⟨hdf, v, hv, hR⟩ := h2
    obtain ⟨r1, r2, r3⟩ := resA_ok hT h1 hv
    exact ⟨by rw [h1.defers, hdf]; rfl, _, r1, ρ', v, s.m, h1.inv, r3, r2, .inl ⟨rfl, hR⟩⟩
  | pan v =>
    obtain ⟨rfl, h4, h5⟩ := h3
    obtain ⟨hdf, hR⟩ := h2
    exact ⟨by rw [h1.defers, hdf]; rfl, ρ', v, s.m, h1.inv, h5, okv_of_solid h4, .inr ⟨rfl, h4, hR⟩⟩
  | exit id => exact h2.elim
theorem callFunc_enter {f : FuncId} {fn : Func} (hf : P.funcs[f]? = some fn) (hn : (fn.name == "runtime.NumGoroutine") = false) (hb : fn.body.isSome = true) (args : Array Value) : (callFunc f args).run P w = .ok (.enter f args) w := by
  have hb' : fn.body.isNone = false := by cases h : fn.body <;> simp_all
  simp only [callFunc, Sem.run_bind, run_program, Result.andThen_ok, hf, hn, hb', Bool.false_eq_true, if_false, Sem.run_pure]
inductive PR where
  | val (v : AV)
  | pan (v : AV)
  | fail
def pureS (g : List AV → PR) : Sum := fun args _ _ => match g args with
  | .val v => .val v [] []
  | .pan v => .pan v [] []
  | .fail => .fail
theorem Inv.from (h : Inv D ρ0 w0 ρ mem w) {ρ' : Nat → Nat} {m' : Mem} {w' : World} (k : Inv (fun b => (fun _ => none : Mem) b ≠ none) ρ w ρ' m' w') : Inv D ρ0 w0 ρ mem w' := by
  have hold : ∀ i, i < w.heap.size → w'.heap[i]? = w.heap[i]? := fun i hi => k.old i hi (fun b hb => (hb rfl).elim)
  refine ⟨fun b blk hb => ?_, h.inj, h.ref, h.ent, h.new, k.os.trans h.os, k.tape.trans h.tape, k.output.trans h.output, Nat.le_trans h.size k.size, fun i hi hD => ?_⟩
  · rw [hold _ (h.lt (by rw [hb]; simp))]; exact h.row b blk hb
  · rw [hold _ (Nat.lt_of_lt_of_le hi h.size)]; exact h.old i hi hD
def Eqv (u v : AV) : Prop := ∀ ρ, conc ρ u = conc ρ v
theorem Eqv.refl (u : AV) : Eqv u u := fun _ => rfl
theorem sum_pure {chk : Array Oper → Option DM → Bool} (hchk : DrawSound P chk) (hT : TOk P T) (hS : STok P S) {L : Nat → Option DM} {n : Nat} {f : FuncId} {fn : Func} {c : Code} (hf : P.funcs[f]? = some fn) (hb : fn.body = some c)
    (hn : (fn.name == "runtime.NumGoroutine") = false) (hd : drawsOk chk L c = true) {g : List AV → PR}
    (hg : ∀ args, g args ≠ .fail → refsL args = [] ∧ (match g args with
      | .val v => okv v = true ∧ refs v = [] ∧ Good (exec T S L n c (initS args fn.ntmps [])) (Ends T fn.results.toList (fun u _ => Eqv u v) fun _ _ => False)
      | .pan v => solid v = true ∧ refs v = [] ∧ Good (exec T S L n c (initS args fn.ntmps [])) (Ends T fn.results.toList (fun _ _ => False) fun u _ => Eqv u v)
      | .fail => True)) : SumOk P f (pureS g) := by
  intro args D ρ0 w0 ρ mem env nxt w henv hnf hso hrf hfr hi
  have hnf' : g args ≠ .fail := by intro e; simp [pureS, e] at hnf
  obtain ⟨hra, hgo⟩ := hg args hnf'
  refine .inr ⟨callFunc_enter hf hn (by rw [hb]; rfl) _, ?_⟩
  have start : Inv (fun b => (fun _ => none : Mem) b ≠ none) ρ w ρ (fun b => ([] : List Blk)[b]?) w := by
    have := Inv.start (w := w) (ρ := ρ) (mem := fun b => ([] : List Blk)[b]?) (by simp) (by simp) (by simp)
    simpa using this
  unfold pureS
  cases hv : g args with
  | fail => exact absurd hv hnf'
  | val v =>
    rw [hv] at hgo
    obtain ⟨g1, g2, g3⟩ := hgo
    refine (calls_ok hchk hT hS hf hb hd start hso (by rw [hra]; simp) g3).mono fun e w' he => ?_
    obtain ⟨ρ', u, m', k1, k2, k3, ⟨rfl, hE⟩ | ⟨-, -, hF⟩⟩ := he
    · refine ⟨ρ, conc ρ v, by rw [hE ρ', conc_noref g2 ρ' ρ], .inr ⟨rfl, g1, by rw [g2]; simp⟩, ?_, ?_, ?_⟩
      · rintro rfl; simp [okv, solid] at g1
      · rw [memNew_nil, memUp_nil]; exact hi.from k1
      · rw [memNew_nil, memUp_nil]; exact Later.refl _ _
    · exact hF.elim
  | pan v =>
    rw [hv] at hgo
    obtain ⟨g1, g2, g3⟩ := hgo
    refine (calls_ok hchk hT hS hf hb hd start hso (by rw [hra]; simp) g3).mono fun e w' he => ?_
    obtain ⟨ρ', u, m', k1, k2, k3, ⟨-, hF⟩ | ⟨rfl, k4, hE⟩⟩ := he
    · exact hF.elim
    · refine ⟨ρ, by rw [hE ρ', conc_noref g2 ρ' ρ], g1, by rw [g2]; simp, ?_, ?_⟩
      · rw [memNew_nil, memUp_nil]; exact hi.from k1
      · rw [memNew_nil, memUp_nil]; exact Later.refl _ _
theorem sum_fn {chk : Array Oper → Option DM → Bool} (hchk : DrawSound P chk) (hT : TOk P T) (hS : STok P S) {L : Nat → Option DM} {n : Nat} {f : FuncId} {fn : Func} {c : Code} (hf : P.funcs[f]? = some fn) (hb : fn.body = some c)
    (hn : (fn.name == "runtime.NumGoroutine") = false) (hd : drawsOk chk L c = true) {g : List AV → PR}
    (hv : ∀ args v, g args = .val v → refsL args = [] ∧ okv v = true ∧ refs v = [] ∧ Good (exec T S L n c (initS args fn.ntmps [])) (Ends T fn.results.toList (fun u _ => Eqv u v) fun _ _ => False))
    (hp : ∀ args v, g args = .pan v → refsL args = [] ∧ solid v = true ∧ refs v = [] ∧ Good (exec T S L n c (initS args fn.ntmps [])) (Ends T fn.results.toList (fun _ _ => False) fun u _ => Eqv u v)) : SumOk P f (pureS g) := by
  refine sum_pure (n := n) hchk hT hS hf hb hn hd fun args hne => ?_
  cases hg : g args with
  | val v => obtain ⟨a, b⟩ := hv args v hg; exact ⟨a, b⟩
  | pan v => obtain ⟨a, b⟩ := hp args v hg; exact ⟨a, b⟩
  | fail => exact absurd hg hne
end
end Go.X
end

section
namespace Go.X
mutual
def vEq : Value → Value → Bool
  | .bool a, .bool b => a == b
  | .int k a, .int k' b => k == k' && a == b
  | .pointer none, .pointer none => true
  | .slice none 0 0, .slice none 0 0 => true
  | .nilFunc, .nilFunc => true
  | .nilIface, .nilIface => true
  | .agg ⟨l⟩, .agg ⟨m⟩ => vEqL l m
  | _, _ => false
def vEqL : List Value → List Value → Bool
  | [], [] => true
  | a :: l, b :: m => vEq a b && vEqL l m
  | _, _ => false
end
mutual
theorem vEq_spec : ∀ (a b : Value), vEq a b = true → a = b
  | .bool a, b, h => by cases b <;> simp_all [vEq]
  | .int k a, b, h => by cases b <;> simp_all [vEq]
  | .pointer none, b, h => by
    cases b with
    | pointer q => cases q <;> simp_all [vEq]
    | _ => simp [vEq] at h
  | .slice none 0 0, b, h => by
    cases b with
    | slice q n c => cases q <;> cases n <;> cases c <;> simp_all [vEq]
    | _ => simp [vEq] at h
  | .nilFunc, b, h => by cases b <;> simp_all [vEq]
  | .nilIface, b, h => by cases b <;> simp_all [vEq]
  | .agg ⟨l⟩, b, h => by
    cases b with
    | agg m => obtain ⟨m⟩ := m; simp only [vEq] at h; rw [vEqL_spec l m h]
    | _ => simp [vEq] at h
  | .pointer (some _), b, h | .float .., b, h | .complex .., b, h | .string _, b, h | .map _, b, h | .chan _, b, h | .func .., b, h | .iface .., b, h | .tuple _, b, h => by simp [vEq] at h
  | .slice (some _) _ _, b, h | .slice none (_ + 1) _, b, h | .slice none 0 (_ + 1), b, h => by simp [vEq] at h
theorem vEqL_spec : ∀ (l m : List Value), vEqL l m = true → l = m
  | [], [], _ => rfl
  | a :: l, b :: m, h => by simp only [vEqL, Bool.and_eq_true] at h; rw [vEq_spec a b h.1, vEqL_spec l m h.2]
  | [], _ :: _, h | _ :: _, [], h => by simp [vEqL] at h
end
def kindCheck (P : Program) (t : TypeId) : TK → Bool
  | .bool => match P.underlying t with | some .bool => true | _ => false
  | .int k => match P.underlying t with | some (.int k') => k == k' | _ => false
  | .struct fs => match P.underlying t with
    | some (.struct flds) => fs == flds.toList.map (fun f => (f.offset, P.cellsOf f.type, isAggT P f.type)) && flds.toList.all fun f => (P.info? f.type).isSome && (P.underlying f.type).isSome
    | _ => false
  | .array n es ea => match P.underlying t with
    | some (.array n' e) => n == n' && isAggT P e == ea && (P.underlying e).isSome && match P.info? e with | some j => j.size == es | none => false
    | _ => false
  | .slice e es eb ez => match P.underlying t with
    | some (.slice e') => e == e' && refs ez == [] && solid ez && width ez == es && match P.info? e with | some j => j.size == es && j.bytes == eb && (match j.zero with | some z => vEq z (conc id ez) | none => false) | none => false
    | _ => false
  | .ptr => match P.underlying t with | some (.pointer _) => true | _ => false
  | .func => match P.underlying t with | some (.func ..) => true | _ => false
  | .iface => match P.underlying t with | some (.interface _) => true | _ => false
  | .other => true
def tiCheck (P : Program) (t : TypeId) (i : TI) : Bool :=
  (match P.info? t with
   | some inf => inf.size == i.size && (match inf.zero with | some z => vEq z (conc id i.zero) | none => false)
   | none => false) && refs i.zero == [] && solid i.zero && width i.zero == i.size && (P.underlying t).isSome && isAggT P t == i.kind.agg && kindCheck P t i.kind &&
  (!i.eq || (!P.eqGuardType P.depth t && flat P 12 t == some i.size))
theorem tiCheck_ok {P : Program} {t : TypeId} {i : TI} (h : tiCheck P t i = true) : TIok P t i := by
  simp only [tiCheck, Bool.and_eq_true, beq_iff_eq] at h
  obtain ⟨⟨⟨⟨⟨⟨⟨h1, h2⟩, h3⟩, h4⟩, h5⟩, h6⟩, h7⟩, h8⟩ := h
  refine ⟨?_, ⟨h2, h3, h4⟩, ?_, h6, ?_, ?_⟩
  · split at h1
    · rename_i inf hi
      simp only [Bool.and_eq_true, beq_iff_eq] at h1
      obtain ⟨a, b⟩ := h1
      split at b
      · rename_i z hz
        exact ⟨inf, hi, a, by rw [hz, vEq_spec _ _ b]⟩
      · simp at b
    · simp at h1
  · exact Option.isSome_iff_exists.1 h5
  · obtain ⟨kd, sz, z, q⟩ := i
    cases kd <;> simp only [kindCheck] at h7 ⊢
    · split at h7
      · assumption
      · simp at h7
    · split at h7
      · rename_i k' hu
        simp only [beq_iff_eq] at h7
        subst h7; exact hu
      · simp at h7
    · split at h7
      · rename_i flds hu
        simp only [Bool.and_eq_true, beq_iff_eq, List.all_eq_true] at h7
        refine ⟨flds, hu, h7.1, fun f hf => ?_⟩
        obtain ⟨a, b⟩ := h7.2 f hf
        obtain ⟨j, hj⟩ := Option.isSome_iff_exists.1 a
        obtain ⟨d, hd⟩ := Option.isSome_iff_exists.1 b
        exact ⟨j, d, hj, hd⟩
      · simp at h7
    · split at h7
      · rename_i n' e hu
        simp only [Bool.and_eq_true, beq_iff_eq] at h7
        obtain ⟨⟨⟨rfl, ha⟩, hd⟩, hj⟩ := h7
        obtain ⟨d, hd⟩ := Option.isSome_iff_exists.1 hd
        split at hj
        · rename_i j hj'
          simp only [beq_iff_eq] at hj
          exact ⟨e, hu, ⟨j, d, hj', hj, hd⟩, ha⟩
        · simp at hj
      · simp at h7
    · split at h7
      · rename_i e' hu
        simp only [Bool.and_eq_true, beq_iff_eq] at h7
        obtain ⟨⟨⟨⟨rfl, a1⟩, a2⟩, a3⟩, hj⟩ := h7
        split at hj
        · rename_i j hj'
          simp only [Bool.and_eq_true, beq_iff_eq] at hj
          obtain ⟨⟨b1, b2⟩, b3⟩ := hj
          split at b3
          · rename_i z hz
            exact ⟨hu, ⟨j, hj', b1, b2, by rw [hz, vEq_spec _ _ b3]⟩, a1, a2, a3⟩
          · simp at b3
        · simp at hj
      · simp at h7
    · split at h7
      · exact ⟨_, by assumption⟩
      · simp at h7
    · split at h7
      · exact ⟨_, _, _, by assumption⟩
      · simp at h7
    · split at h7
      · exact ⟨_, by assumption⟩
      · simp at h7
  · intro hq
    rw [hq] at h8
    simp only [Bool.not_true, Bool.false_or, Bool.and_eq_true, beq_iff_eq, Bool.not_eq_true'] at h8
    exact ⟨h8.1, 12, by omega, h8.2⟩
def ttOf (l : List (TypeId × TI)) : TT := fun t => (l.find? fun p => p.1 == t).map (·.2)
theorem ttOf_ok {P : Program} {l : List (TypeId × TI)} (h : l.all (fun p => tiCheck P p.1 p.2) = true) : TOk P (ttOf l) := by
  intro t i hi
  unfold ttOf at hi
  simp only [Option.map_eq_some_iff] at hi
  obtain ⟨p, hp, rfl⟩ := hi
  have h1 := List.find?_some hp
  have h2 := List.mem_of_find?_eq_some hp
  simp only [beq_iff_eq] at h1
  subst h1
  exact tiCheck_ok (List.all_eq_true.1 h p h2)
end Go.X
end
