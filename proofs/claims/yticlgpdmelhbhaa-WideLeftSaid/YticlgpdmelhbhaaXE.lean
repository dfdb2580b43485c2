/- Comparing structs and arrays of numbers, cell by cell. Plain: no program in sight. -/
import Derived.Test.YticlgpdmelhbhaaXD
import Derived.ChangeKeysEq
namespace Go.X

theorem alike_cons {x y : Value} {l m : List Value} (h : alike (x :: l) (y :: m) = true) : ∃ k a b, x = .int k a ∧ y = .int k b ∧ alike l m = true := by
  cases x <;> cases y <;> simp [alike] at h
  exact ⟨_, _, _, by rw [h.1], rfl, h.2⟩

theorem alike_length : ∀ {l m : List Value}, alike l m = true → l.length = m.length
  | [], [], _ => rfl
  | x :: l, y :: m, h => by obtain ⟨k, a, b, rfl, rfl, h'⟩ := alike_cons h; simp [alike_length h']
  | [], y :: _, h | y :: _, [], h => by cases y <;> simp [alike] at h

theorem alike_append : ∀ {a b c d : List Value}, a.length = c.length → (alike (a ++ b) (c ++ d) = (alike a c && alike b d)) ∧ (alike a c = true → cellsEq (a ++ b) (c ++ d) = (cellsEq a c && cellsEq b d))
  | [], b, [], d, _ => by simp [alike, cellsEq]
  | x :: a, b, y :: c, d, h => by
    obtain ⟨h1, h2⟩ := alike_append (a := a) (b := b) (c := c) (d := d) (by simpa using h)
    cases x <;> cases y <;> simp [alike, cellsEq]
    rw [h1]
    refine ⟨by rw [Bool.and_assoc], fun _ hl => by rw [h2 hl, Bool.and_assoc]⟩

theorem alike_split {l m : List Value} {n : Nat} (h : alike l m = true) : alike (l.take n) (m.take n) = true ∧ alike (l.drop n) (m.drop n) = true ∧ cellsEq l m = (cellsEq (l.take n) (m.take n) && cellsEq (l.drop n) (m.drop n)) := by
  have hl := alike_length h
  have e1 := (List.take_append_drop n l).symm
  have e2 := (List.take_append_drop n m).symm
  obtain ⟨h1, h2⟩ := alike_append (a := l.take n) (b := l.drop n) (c := m.take n) (d := m.drop n) (by simp [hl])
  rw [← e1, ← e2, h] at h1
  have h1' := h1.symm
  simp only [Bool.and_eq_true] at h1'
  refine ⟨h1'.1, h1'.2, ?_⟩
  have := h2 h1'.1
  rwa [← e1, ← e2] at this

/-- a value of a type, out of its cells -/
def mkV (P : Program) (t : TypeId) (l : List Value) : Value := if isAggT P t then .agg l.toArray else l.headD Go.undef

section
variable {P : Program} {w : World}

theorem run_part_mk {t : TypeId} {j : TypeInfo} {d : TypeDesc} (hd : P.underlying t = some d) (hj : P.info? t = some j) {xs : List Value} {o : Nat} (hlen : o + j.size ≤ xs.length) (h1 : isAggT P t = false → j.size = 1) :
    (part t xs.toArray o).run P w = .ok (mkV P t ((xs.drop o).take j.size)) w := by
  simp only [part, Sem.run_bind, run_isAgg hd, Result.andThen_ok]
  by_cases h : isAggT P t = true
  · simp only [h, if_true, Sem.run_bind, run_sizeOf hj, Result.andThen_ok, Sem.run_pure, mkV]
    congr 2
    apply Array.toList_inj.1
    simp
  · have hs := h1 (by simpa using h)
    simp only [h, Bool.false_eq_true, if_false, mkV]
    have ho : o < xs.length := by omega
    simp only [List.getElem?_toArray, List.getElem?_eq_getElem ho, Sem.run_pure, hs, List.drop_eq_getElem_cons ho]
    rfl

theorem flatFs_mono (g : TypeId → Option Nat) : ∀ (fs : List Field) (o n : Nat), flatFs P g fs o = some n → o ≤ n
  | [], o, n, h => by simp only [flatFs, Option.some.injEq] at h; omega
  | f :: fs, o, n, h => by
    simp only [flatFs] at h
    split at h
    · simp at h
    · split at h
      · split at h
        · have := flatFs_mono g fs _ _ h; omega
        · simp at h
      · simp at h

theorem flat_agg : ∀ {h : Nat} {t : TypeId} {n : Nat}, flat P h t = some n → (isAggT P t = false → n = 1) ∧ ∃ d, P.underlying t = some d
  | 0, t, n, h => by simp [flat] at h
  | h + 1, t, n, hf => by
    simp only [flat] at hf
    split at hf
    · rename_i k hu
      simp only [Option.some.injEq] at hf
      exact ⟨fun _ => hf.symm, _, hu⟩
    · rename_i fs hu
      exact ⟨fun ha => by simp [isAggT, hu] at ha, _, hu⟩
    · rename_i m e hu
      exact ⟨fun ha => by simp [isAggT, hu] at ha, _, hu⟩
    · simp at hf

theorem equalIn_flat : ∀ (h : Nat) (t : TypeId) (n : Nat), flat P h t = some n → ∀ (d : Nat) (xs ys : List Value), h ≤ d → xs.length = n → alike xs ys = true →
    (Op.equalIn d t (mkV P t xs) (mkV P t ys)).run P w = .ok (cellsEq xs ys) w
  | 0, t, n, hf, _, _, _, _, _, _ => by simp [flat] at hf
  | h + 1, t, n, hf, d, xs, ys, hd, hx, hal => by
    obtain ⟨d, rfl⟩ : ∃ e, d = e + 1 := ⟨d - 1, by omega⟩
    have ihs := equalIn_flat h
    simp only [flat] at hf
    split at hf
    · rename_i k hu
      simp only [Option.some.injEq] at hf
      subst hf
      have ha : isAggT P t = false := by simp [isAggT, hu]
      match xs, ys, hx, hal with
      | [x], [y], _, hal =>
        obtain ⟨k', a, b, rfl, rfl, -⟩ := alike_cons hal
        simp only [mkV, ha, Bool.false_eq_true, if_false, List.headD_cons, cellsEq, Bool.and_true]
        exact run_equalIn_int w d t k' k a b hu
      | [x], [], _, hal => simp [alike] at hal
      | [x], _ :: _ :: _, _, hal => have := alike_length hal; simp at this
    · rename_i fs hu
      split at hf
      · simp at hf
      · rename_i hst
        have ha : isAggT P t = true := by simp [isAggT, hu]
        have hfo : P.fieldsOf t = fs := by simp [Program.fieldsOf, hu]
        simp only [mkV, ha, if_true]
        rw [run_equalIn_struct w d t xs.toArray ys.toArray (by rw [hfo]; exact hu) (by simpa using hst), hfo]
        have key : ∀ (l : List Field) (o : Nat), flatFs P (flat P h) l o = some n → o ≤ n → (Op.eqFields d xs.toArray ys.toArray l).run P w = .ok (cellsEq (xs.drop o) (ys.drop o)) w := by
          intro l
          induction l with
          | nil =>
            intro o ho _
            simp only [flatFs, Option.some.injEq] at ho
            have hy := alike_length hal
            rw [List.drop_of_length_le (by omega), List.drop_of_length_le (by omega)]
            simp [Op.eqFields, cellsEq]
          | cons f l ih =>
            intro o ho hon
            simp only [flatFs] at ho
            split at ho
            · simp at ho
            · rename_i hn
              simp only [not_or, Decidable.not_not] at hn
              split at ho
              · rename_i m j hm hj
                split at ho
                · rename_i hjs
                  have hmn := flatFs_mono _ _ _ _ ho
                  obtain ⟨g1, df, hdf⟩ := flat_agg hm
                  have hy := alike_length hal
                  have p1 := run_part_mk (w := w) (xs := xs) (o := o) hdf hj (by omega) (fun e => by rw [hjs]; exact g1 e)
                  have p2 := run_part_mk (w := w) (xs := ys) (o := o) hdf hj (by omega) (fun e => by rw [hjs]; exact g1 e)
                  have hal2 := (alike_split (n := o) hal).2.1
                  obtain ⟨q1, q2, q3⟩ := alike_split (n := m) hal2
                  have ihh := ihs f.type m hm d ((xs.drop o).take m) ((ys.drop o).take m) (by omega) (by simp; omega) q1
                  rw [hjs] at p1 p2
                  simp only [Op.eqFields, hn.1, hn.2, ne_eq, not_false_eq_true, if_true, Sem.run_bind, p1, p2, ihh, Result.andThen_ok]
                  rw [q3]
                  cases hc : cellsEq ((xs.drop o).take m) ((ys.drop o).take m) with
                  | false => simp
                  | true => simp only [Bool.not_true, Bool.false_eq_true, if_false, Bool.true_and]; rw [ih (o + m) ho hmn]; simp [List.drop_drop]
                · simp at ho
              · simp at ho
        have := key fs.toList 0 hf (Nat.zero_le _)
        simpa using this
    · rename_i m e hu
      split at hf
      · rename_i k j hk hj
        split at hf
        · rename_i hjs
          simp only [Option.some.injEq] at hf
          have ha : isAggT P t = true := by simp [isAggT, hu]
          simp only [mkV, ha, if_true]
          rw [run_equalIn_array w d xs.toArray ys.toArray hu hj]
          have hck : P.cellsOf e = k := by simp [Program.cellsOf, hj, hjs]
          obtain ⟨g1, df, hdf⟩ := flat_agg hk
          have hy := alike_length hal
          rw [hck]
          have key : ∀ (c i : Nat), i + c = m → (Op.eqItems d e k xs.toArray ys.toArray (List.range' i c)).run P w = .ok (cellsEq (xs.drop (i * k)) (ys.drop (i * k))) w := by
            intro c
            induction c with
            | zero =>
              intro i hi
              have : i = m := by omega
              subst this
              rw [List.drop_of_length_le (by omega), List.drop_of_length_le (by omega)]
              simp [Op.eqItems, cellsEq]
            | succ c ih =>
              intro i hi
              have hb : i * k + k ≤ n := by
                rw [← hf, ← Nat.succ_mul]; exact Nat.mul_le_mul_right _ (by omega)
              have p1 := run_part_mk (w := w) (xs := xs) (o := i * k) hdf hj (by omega) (fun e => by rw [hjs]; exact g1 e)
              have p2 := run_part_mk (w := w) (xs := ys) (o := i * k) hdf hj (by omega) (fun e => by rw [hjs]; exact g1 e)
              have hal2 := (alike_split (n := i * k) hal).2.1
              obtain ⟨q1, q2, q3⟩ := alike_split (n := k) hal2
              have ihh := ihs e k hk d ((xs.drop (i * k)).take k) ((ys.drop (i * k)).take k) (by omega) (by simp; omega) q1
              rw [hjs] at p1 p2
              simp only [List.range'_succ, Op.eqItems, Sem.run_bind, p1, p2, ihh, Result.andThen_ok]
              rw [q3]
              cases hc : cellsEq ((xs.drop (i * k)).take k) ((ys.drop (i * k)).take k) with
              | false => simp
              | true =>
                simp only [Bool.not_true, Bool.false_eq_true, if_false, Bool.true_and]
                rw [ih (i + 1) (by omega)]
                simp [List.drop_drop, Nat.succ_mul]
          have := key m 0 (by omega)
          rw [List.range_eq_range']
          simpa using this
        · simp at hf
      · simp at hf
    · simp at hf

end

theorem concC_flatI (ρ : Nat → Nat) : ∀ l : List AV, concC ρ (flatI l) = concC ρ l
  | [] => rfl
  | v :: l => by
    have ih := concC_flatI ρ l
    cases v <;> simp only [flatI, concC, ih]
    rw [concC_append, concC_explode, ih]
    rfl

theorem eqArr_spec (k : IntKind) (n : Nat) (f g : Nat → Int) : alike (arrCells k n f) (arrCells k n g) = true ∧ cellsEq (arrCells k n f) (arrCells k n g) = eqArr n f g := by
  unfold arrCells eqArr
  generalize List.range n = l
  induction l with
  | nil => simp [alike, cellsEq]
  | cons i l ih => simp [alike, cellsEq, ih.1, ih.2]

theorem eqItems_spec (ρ : Nat → Nat) : ∀ {l m : List AV} {r : Bool}, eqItems l m = some r → alike (concC ρ l) (concC ρ m) = true ∧ cellsEq (concC ρ l) (concC ρ m) = r
  | [], [], r, h => by simp only [eqItems, Option.some.injEq] at h; subst h; simp [concC, alike, cellsEq]
  | v :: l, u :: m, r, h => by
    cases v <;> cases u <;> simp only [eqItems] at h <;> first
      | (simp at h; done)
      | (split at h
         · rename_i hk
           cases hr : eqItems l m with
           | none => simp [hr] at h
           | some q =>
             simp only [hr, Option.map_some, Option.some.injEq] at h
             subst h
             obtain ⟨h1, h2⟩ := eqItems_spec ρ hr
             first
               | (subst hk; simp only [concC, conc, Value.cells, List.cons_append, List.nil_append, alike, cellsEq, h1, h2]; simp; done)
               | (obtain ⟨rfl, rfl⟩ := hk
                  rename_i k n f g
                  obtain ⟨e1, e2⟩ := eqArr_spec k n f g
                  obtain ⟨a1, a2⟩ := alike_append (a := arrCells k n f) (b := concC ρ l) (c := arrCells k n g) (d := concC ρ m) (by simp [arrCells])
                  simp only [concC, conc, Value.cells]
                  rw [a1, a2 e1, e1, h1, h2, e2]; simp)
         · simp at h)
  | [], _ :: _, r, h | _ :: _, [], r, h => by simp [eqItems] at h

theorem eqA_spec (ρ : Nat → Nat) {l m : List AV} {r : Bool} (h : eqA l m = some r) : alike (concC ρ l) (concC ρ m) = true ∧ cellsEq (concC ρ l) (concC ρ m) = r := by
  unfold eqA at h
  split at h
  · rename_i q hq
    simp only [Option.some.injEq] at h
    subst h
    exact eqItems_spec ρ hq
  · have := eqItems_spec ρ h
    rwa [concC_flatI, concC_flatI] at this

end Go.X
