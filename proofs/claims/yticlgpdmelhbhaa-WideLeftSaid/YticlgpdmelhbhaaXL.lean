/- The types' table checked by calculation. Plain: no program in sight. -/
import Derived.Test.YticlgpdmelhbhaaXK
namespace Go.X

mutual
def vEq : Value → Value → Bool
  | .bool a, .bool b => a == b
  | .int k a, .int k' b => k == k' && a == b
  | .pointer none, .pointer none => true
  | .slice none 0 0, .slice none 0 0 => true
  | .nilFunc, .nilFunc => true
  | .nilIface, .nilIface => true
  | .agg ⟨l⟩, .agg ⟨m⟩ => vEqL l m
  | _, _ => false
def vEqL : List Value → List Value → Bool
  | [], [] => true
  | a :: l, b :: m => vEq a b && vEqL l m
  | _, _ => false
end
mutual
theorem vEq_spec : ∀ (a b : Value), vEq a b = true → a = b
  | .bool a, b, h => by cases b <;> simp_all [vEq]
  | .int k a, b, h => by cases b <;> simp_all [vEq]
  | .pointer none, b, h => by
    cases b with
    | pointer q => cases q <;> simp_all [vEq]
    | _ => simp [vEq] at h
  | .slice none 0 0, b, h => by
    cases b with
    | slice q n c => cases q <;> cases n <;> cases c <;> simp_all [vEq]
    | _ => simp [vEq] at h
  | .nilFunc, b, h => by cases b <;> simp_all [vEq]
  | .nilIface, b, h => by cases b <;> simp_all [vEq]
  | .agg ⟨l⟩, b, h => by
    cases b with
    | agg m => obtain ⟨m⟩ := m; simp only [vEq] at h; rw [vEqL_spec l m h]
    | _ => simp [vEq] at h
  | .pointer (some _), b, h | .float .., b, h | .complex .., b, h | .string _, b, h | .map _, b, h | .chan _, b, h | .func .., b, h | .iface .., b, h | .tuple _, b, h => by simp [vEq] at h
  | .slice (some _) _ _, b, h | .slice none (_ + 1) _, b, h | .slice none 0 (_ + 1), b, h => by simp [vEq] at h
theorem vEqL_spec : ∀ (l m : List Value), vEqL l m = true → l = m
  | [], [], _ => rfl
  | a :: l, b :: m, h => by simp only [vEqL, Bool.and_eq_true] at h; rw [vEq_spec a b h.1, vEqL_spec l m h.2]
  | [], _ :: _, h | _ :: _, [], h => by simp [vEqL] at h
end

def kindCheck (P : Program) (t : TypeId) : TK → Bool
  | .bool => match P.underlying t with | some .bool => true | _ => false
  | .int k => match P.underlying t with | some (.int k') => k == k' | _ => false
  | .struct fs => match P.underlying t with
    | some (.struct flds) => fs == flds.toList.map (fun f => (f.offset, P.cellsOf f.type, isAggT P f.type)) && flds.toList.all fun f => (P.info? f.type).isSome && (P.underlying f.type).isSome
    | _ => false
  | .array n es ea => match P.underlying t with
    | some (.array n' e) => n == n' && isAggT P e == ea && (P.underlying e).isSome && match P.info? e with | some j => j.size == es | none => false
    | _ => false
  | .slice e es eb ez => match P.underlying t with
    | some (.slice e') => e == e' && refs ez == [] && solid ez && width ez == es && match P.info? e with | some j => j.size == es && j.bytes == eb && (match j.zero with | some z => vEq z (conc id ez) | none => false) | none => false
    | _ => false
  | .ptr => match P.underlying t with | some (.pointer _) => true | _ => false
  | .func => match P.underlying t with | some (.func ..) => true | _ => false
  | .iface => match P.underlying t with | some (.interface _) => true | _ => false
  | .other => true

def tiCheck (P : Program) (t : TypeId) (i : TI) : Bool :=
  (match P.info? t with
   | some inf => inf.size == i.size && (match inf.zero with | some z => vEq z (conc id i.zero) | none => false)
   | none => false) && refs i.zero == [] && solid i.zero && width i.zero == i.size && (P.underlying t).isSome && isAggT P t == i.kind.agg && kindCheck P t i.kind &&
  (!i.eq || (!P.eqGuardType P.depth t && flat P 12 t == some i.size))

theorem tiCheck_ok {P : Program} {t : TypeId} {i : TI} (h : tiCheck P t i = true) : TIok P t i := by
  simp only [tiCheck, Bool.and_eq_true, beq_iff_eq] at h
  obtain ⟨⟨⟨⟨⟨⟨⟨h1, h2⟩, h3⟩, h4⟩, h5⟩, h6⟩, h7⟩, h8⟩ := h
  refine ⟨?_, ⟨h2, h3, h4⟩, ?_, h6, ?_, ?_⟩
  · split at h1
    · rename_i inf hi
      simp only [Bool.and_eq_true, beq_iff_eq] at h1
      obtain ⟨a, b⟩ := h1
      split at b
      · rename_i z hz
        exact ⟨inf, hi, a, by rw [hz, vEq_spec _ _ b]⟩
      · simp at b
    · simp at h1
  · exact Option.isSome_iff_exists.1 h5
  · obtain ⟨kd, sz, z, q⟩ := i
    cases kd <;> simp only [kindCheck] at h7 ⊢
    · split at h7
      · assumption
      · simp at h7
    · split at h7
      · rename_i k' hu
        simp only [beq_iff_eq] at h7
        subst h7; exact hu
      · simp at h7
    · split at h7
      · rename_i flds hu
        simp only [Bool.and_eq_true, beq_iff_eq, List.all_eq_true] at h7
        refine ⟨flds, hu, h7.1, fun f hf => ?_⟩
        obtain ⟨a, b⟩ := h7.2 f hf
        obtain ⟨j, hj⟩ := Option.isSome_iff_exists.1 a
        obtain ⟨d, hd⟩ := Option.isSome_iff_exists.1 b
        exact ⟨j, d, hj, hd⟩
      · simp at h7
    · split at h7
      · rename_i n' e hu
        simp only [Bool.and_eq_true, beq_iff_eq] at h7
        obtain ⟨⟨⟨rfl, ha⟩, hd⟩, hj⟩ := h7
        obtain ⟨d, hd⟩ := Option.isSome_iff_exists.1 hd
        split at hj
        · rename_i j hj'
          simp only [beq_iff_eq] at hj
          exact ⟨e, hu, ⟨j, d, hj', hj, hd⟩, ha⟩
        · simp at hj
      · simp at h7
    · split at h7
      · rename_i e' hu
        simp only [Bool.and_eq_true, beq_iff_eq] at h7
        obtain ⟨⟨⟨⟨rfl, a1⟩, a2⟩, a3⟩, hj⟩ := h7
        split at hj
        · rename_i j hj'
          simp only [Bool.and_eq_true, beq_iff_eq] at hj
          obtain ⟨⟨b1, b2⟩, b3⟩ := hj
          split at b3
          · rename_i z hz
            exact ⟨hu, ⟨j, hj', b1, b2, by rw [hz, vEq_spec _ _ b3]⟩, a1, a2, a3⟩
          · simp at b3
        · simp at hj
      · simp at h7
    · split at h7
      · exact ⟨_, by assumption⟩
      · simp at h7
    · split at h7
      · exact ⟨_, _, _, by assumption⟩
      · simp at h7
    · split at h7
      · exact ⟨_, by assumption⟩
      · simp at h7
  · intro hq
    rw [hq] at h8
    simp only [Bool.not_true, Bool.false_or, Bool.and_eq_true, beq_iff_eq, Bool.not_eq_true'] at h8
    exact ⟨h8.1, 12, by omega, h8.2⟩

/-- a table out of a list -/
def ttOf (l : List (TypeId × TI)) : TT := fun t => (l.find? fun p => p.1 == t).map (·.2)
theorem ttOf_ok {P : Program} {l : List (TypeId × TI)} (h : l.all (fun p => tiCheck P p.1 p.2) = true) : TOk P (ttOf l) := by
  intro t i hi
  unfold ttOf at hi
  simp only [Option.map_eq_some_iff] at hi
  obtain ⟨p, hp, rfl⟩ := hi
  have h1 := List.find?_some hp
  have h2 := List.mem_of_find?_eq_some hp
  simp only [beq_iff_eq] at h1
  subst h1
  exact tiCheck_ok (List.all_eq_true.1 h p h2)

end Go.X
