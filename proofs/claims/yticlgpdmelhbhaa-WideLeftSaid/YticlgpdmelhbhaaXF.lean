/- Each operation on abstract values is the machine's. Plain: no program in sight. -/
import Derived.Test.YticlgpdmelhbhaaXE
namespace Go.X

section
variable {P : Program} {D : Nat → Prop} {ρ0 ρ : Nat → Nat} {w0 w : World} {mem : Mem}

/-- an operation came to a value -/
def Came (P : Program) (D : Nat → Prop) (ρ0 : Nat → Nat) (w0 : World) (ρ : Nat → Nat) (mem mem' : Mem) (v : AV) (s : Sem Next) (w : World) : Prop :=
  ∃ nx w' ρ' x, s.run P w = .ok nx w' ∧ (nx = .value x ∨ (nx = .skip ∧ x = Go.undef)) ∧ SR ρ' mem' v x ∧ Inv D ρ0 w0 ρ' mem' w' ∧ Later ρ mem ρ' mem'

theorem came_pure (h : Inv D ρ0 w0 ρ mem w) {v : AV} {s : Sem Next} (hr : s.run P w = .ok (.value (conc ρ v)) w) (hv : okv v = true) (hc : ∀ c ∈ refs v, mem c ≠ none) :
    Came P D ρ0 w0 ρ mem mem v s w := ⟨_, w, ρ, _, hr, .inl rfl, .inr ⟨rfl, hv, hc⟩, h, Later.refl _ _⟩

theorem run_v {s : Sem Value} {x : Value} {w w' : World} (h : s.run P w = .ok x w') : (do pure (Next.value (← s)) : Sem Next).run P w = .ok (.value x) w' := by
  simp [h]

theorem run_intA {op : BinOp} {k : IntKind} {a b : Int} {v : AV} (h : intA op k a b = some v) (t : TypeId) : (binOp op t (.int k a) (.int k b)).run P w = .ok (conc ρ v) w ∧ okv v = true ∧ refs v = [] := by
  cases op <;> simp only [intA] at h <;> first
    | (simp at h; done)
    | (simp only [Option.some.injEq] at h; subst h; exact ⟨by simp [binOp, Op.intArith, Op.intBits, Op.intCmp, conc, bitsA], rfl, rfl⟩)
    | (split at h
       · simp at h
       · rename_i hb
         simp only [Option.some.injEq] at h; subst h; exact ⟨by simp [binOp, Op.intDiv, hb, conc], rfl, rfl⟩)

theorem run_intBin {op : BinOp} {k k' : IntKind} {a b : Int} {v : AV} (h : intBin op k a k' b = some v) (t : TypeId) : (binOp op t (.int k a) (.int k' b)).run P w = .ok (conc ρ v) w ∧ okv v = true ∧ refs v = [] := by
  unfold intBin at h
  split at h
  · split at h
    · simp at h
    · rename_i hb
      simp only [Option.some.injEq] at h; subst h
      exact ⟨by simp [binOp, Op.shift, hb, conc, shlA], rfl, rfl⟩
  · split at h
    · simp at h
    · rename_i hb
      simp only [Option.some.injEq] at h; subst h
      exact ⟨by simp [binOp, Op.shift, hb, conc, shrA], rfl, rfl⟩
  · split at h
    · rename_i hk
      subst hk
      exact run_intA h t
    · simp at h

theorem run_aggBin {T : TT} (hT : TOk P T) {op : BinOp} {t : TypeId} (x y : Operand) {a b v : AV} {xs ys : Array Value} (h : aggBin (T t) op a b = some v)
    (ha : xs.toList = concC ρ (items a)) (hb : ys.toList = concC ρ (items b)) :
    (do eqGuard op t x y (.agg xs) (.agg ys); binOp op t (.agg xs) (.agg ys) : Sem Value).run P w = .ok (conc ρ v) w ∧ okv v = true ∧ refs v = [] := by
  unfold aggBin at h
  split at h
  · rename_i kd n z hti
    split at h
    · rename_i hw
      have ti := hT t _ hti
      obtain ⟨he, hh, hle, hfl⟩ := ti.eq rfl
      simp only at hfl
      have hguard := run_eqGuard_agg w op t x y xs ys he
      have hag : isAggT P t = true := by rw [ti.agg]; exact hw.1
      have main : ∀ r, eqA (items a) (items b) = some r → (Op.equalIn 10000 t (.agg xs) (.agg ys)).run P w = .ok r w := by
        intro r hr
        obtain ⟨e1, e2⟩ := eqA_spec ρ hr
        have hlen : (concC ρ (items a)).length = n := by rw [length_concC, widthL_items]; exact hw.2.1
        have hmk := equalIn_flat (w := w) hh t n hfl 10000 _ _ (by omega) hlen e1
        rw [e2] at hmk
        simp only [mkV, hag, if_true, ← ha, ← hb] at hmk
        simpa using hmk
      split at h <;> first
        | (simp at h; done)
        | (cases hr : eqA (items a) (items b) with
           | none => simp [hr] at h
           | some r =>
             simp only [hr, Option.map_some, Option.some.injEq] at h
             subst h
             refine ⟨?_, rfl, rfl⟩
             simp only [Sem.run_bind, hguard, Result.andThen_ok, run_eql_struct, run_neq_struct, main r hr, conc])
    · simp at h
  · simp at h

theorem run_equalIn_iface_nil (d : Nat) {t : TypeId} {ms : Array (String × TypeId)} (hu : P.underlying t = some (.interface ms)) (u : TypeId) (x : Value) : (Op.equalIn (d + 1) t (.iface u x) .nilIface).run P w = .ok false w := by
  simp [Op.equalIn, run_underlying hu]

theorem run_equalIn_nil_nil (d : Nat) {t : TypeId} {ms : Array (String × TypeId)} (hu : P.underlying t = some (.interface ms)) : (Op.equalIn (d + 1) t .nilIface .nilIface).run P w = .ok true w := by
  simp [Op.equalIn, run_underlying hu]

theorem run_binA {T : TT} (hT : TOk P T) {op : BinOp} {t : TypeId} (x y : Operand) {a b v : AV} (h : binA T (isC x || isC y) op t a b = some v) :
    (do eqGuard op t x y (conc ρ a) (conc ρ b); binOp op t (conc ρ a) (conc ρ b) : Sem Value).run P w = .ok (conc ρ v) w ∧ okv v = true ∧ refs v = [] := by
  unfold binA at h
  split at h
  · have := run_intBin (P := P) (w := w) (ρ := ρ) h t
    refine ⟨?_, this.2⟩
    simp only [conc, eqGuard_at_int, Sem.run_bind, Sem.run_pure, Result.andThen_ok]
    exact this.1
  · rename_i a b
    unfold boolBin at h
    split at h
    · rename_i n z e hti
      have hu := (hT t _ hti).kind
      simp only at hu
      simp only [conc, eqGuard_at_bool]
      split at h <;> first
        | (simp at h; done)
        | (simp only [Option.some.injEq] at h; subst h
           refine ⟨?_, rfl, rfl⟩
           simp [binOp, Op.equal, Op.maxDepth, run_equalIn_bool w 9999 t a b hu, conc])
    · simp at h
  · rename_i u q
    unfold ifBin at h
    split at h
    · rename_i n z e hti
      obtain ⟨ms, hu⟩ := (hT t _ hti).kind
      simp only [conc, eqGuard_at_iface]
      split at h <;> first
        | (simp at h; done)
        | (simp only [Option.some.injEq] at h; subst h
           refine ⟨?_, rfl, rfl⟩
           have key : (Op.equalIn 10000 t (.iface u (conc ρ q)) .nilIface).run P w = .ok false w := run_equalIn_iface_nil 9999 hu u (conc ρ q)
           simp only [binOp, Op.equal, Op.maxDepth, Sem.run_bind, Sem.run_pure, Result.andThen_ok, key, conc, Bool.not_false])
    · simp at h
  · split at h
    · rename_i hc
      unfold ifBin at h
      split at h
      · rename_i n z e hti
        obtain ⟨ms, hu⟩ := (hT t _ hti).kind
        have hg : ∀ op, eqGuard op t x y .nilIface .nilIface = pure () := by
          intro op
          simp only [Bool.or_eq_true] at hc
          rcases hc with hc | hc
          · cases x <;> simp [isC] at hc
            cases op <;> simp [eqGuard]
          · cases y <;> simp [isC] at hc
            cases op <;> simp [eqGuard]
        simp only [conc, hg]
        split at h <;> first
          | (simp at h; done)
          | (simp only [Option.some.injEq] at h; subst h
             refine ⟨?_, rfl, rfl⟩
             have key : (Op.equalIn 10000 t .nilIface .nilIface).run P w = .ok true w := run_equalIn_nil_nil 9999 hu
             simp only [binOp, Op.equal, Op.maxDepth, Sem.run_bind, Sem.run_pure, Result.andThen_ok, key, conc])
      · simp at h
    · simp at h
  · exact run_aggBin hT x y h (by simp [items, concC, conc, Value.cells]) (by simp [items, concC, conc, Value.cells])
  · exact run_aggBin hT x y h (by simp [items, concC, conc, Value.cells]) (by simp [items])
  · exact run_aggBin hT x y h (by simp [items]) (by simp [items, concC, conc, Value.cells])
  · exact run_aggBin hT x y h (by simp [items]) (by simp [items])
  · simp at h

theorem run_unA {op : UnOp} {a v : AV} (h : unA op a = some v) : (Op.unary op (conc ρ a)).run P w = .ok (conc ρ v) w ∧ okv v = true ∧ refs v = [] := by
  unfold unA at h
  split at h <;> first
    | (simp only [Option.some.injEq] at h; subst h; exact ⟨by simp [Op.unary, Op.intArith, Op.intBits, conc, bitsA], rfl, rfl⟩)
    | (simp at h; done)

theorem SR.refs_mem {m : Mem} {v : AV} {x : Value} (h : SR ρ m v x) : ∀ c ∈ refs v, m c ≠ none := by
  rcases h with rfl | h
  · simp [refs]
  · exact h.2.2

theorem conc_undef {v : AV} (h : v = .undef) : conc ρ v = Go.undef := by subst h; rfl

/-- slots that are solid are known -/
theorem SR.solid {m : Mem} {v : AV} {x : Value} (h : SR ρ m v x) (hv : solid v = true) : x = conc ρ v := (h.get (by rintro rfl; simp [X.solid] at hv)).1

theorem refs_pick {c : Bool} {a b : AV} : ∀ x ∈ refs (pickA c a b), x ∈ refs a ∨ x ∈ refs b := by
  intro x
  unfold pickA
  split
  · simp [refs]
  · cases c
    · exact fun h => .inr h
    · exact fun h => .inl h

theorem pick_ok {m : Mem} {c : Bool} {a b : AV} {x y : Value} (ha : SR ρ m a x) (hb : SR ρ m b y) : SR ρ m (pickA c a b) (if c = true then x else y) := by
  unfold pickA
  split
  · obtain ⟨rfl, -, -⟩ := ha.get (by simp)
    obtain ⟨rfl, -, -⟩ := hb.get (by simp)
    exact .inr ⟨by cases c <;> simp [conc], rfl, by simp [refs]⟩
  · cases c
    · exact hb
    · exact ha

theorem concT_eq (ρ : Nat → Nat) : ∀ l : List AV, concT ρ l = l.map (conc ρ)
  | [] => rfl
  | v :: l => by simp only [concT, List.map_cons]; rw [concT_eq ρ l]
theorem mem_refsL {c : Nat} : ∀ {l : List AV}, c ∈ refsL l ↔ ∃ v ∈ l, c ∈ refs v
  | [] => by simp [refsL]
  | v :: l => by simp [refsL, mem_refsL (l := l)]
theorem mem_solidL : ∀ {l : List AV}, solidL l = true ↔ ∀ v ∈ l, solid v = true
  | [] => by simp [solidL]
  | v :: l => by simp [solidL, mem_solidL (l := l)]

theorem solid_copies (n : Nat) {v : AV} (h : solid v = true) : solidL (copies n v) = true := by
  unfold copies
  split
  · simp [solidL, X.solid]
  · rw [mem_solidL]
    intro u hu
    simp only [List.mem_flatten, List.mem_replicate] at hu
    obtain ⟨l, ⟨-, rfl⟩, hu⟩ := hu
    exact (mem_solidL.1 (by rw [solidL_items]; exact h)) u hu
theorem refs_copies (n : Nat) {v : AV} (h : refs v = []) : refsL (copies n v) = [] := by
  unfold copies
  split
  · simp [refsL, refs]
  · apply List.eq_nil_iff_forall_not_mem.2
    intro c hc
    obtain ⟨u, hu, hc⟩ := mem_refsL.1 hc
    simp only [List.mem_flatten, List.mem_replicate] at hu
    obtain ⟨l, ⟨-, rfl⟩, hu⟩ := hu
    have : c ∈ refsL (items v) := mem_refsL.2 ⟨u, hu, hc⟩
    rw [refsL_items, h] at this
    simp at this
theorem concC_flatten_replicate (ρ : Nat → Nat) (l : List AV) : ∀ n, concC ρ (List.replicate n l).flatten = (List.replicate n (concC ρ l)).flatten
  | 0 => rfl
  | n + 1 => by simp only [List.replicate_succ, List.flatten_cons]; rw [concC_append, concC_flatten_replicate ρ l n]
theorem concC_copies (ρ : Nat → Nat) (n : Nat) (v : AV) : concC ρ (copies n v) = (List.replicate n (conc ρ v).cells.toList).flatten := by
  unfold copies
  split
  · simp only [concC, conc, Value.cells, List.append_nil, arrCells]
    induction n with
    | zero => rfl
    | succ n ih => rw [List.range_succ_eq_map, List.map_cons, List.map_map, List.replicate_succ, List.flatten_cons]; simpa [Function.comp_def] using ih
  · rw [concC_flatten_replicate, concC_items]

theorem range_mod (z : List Value) (n : Nat) (_hz : 0 < z.length) : (List.range (n * z.length)).map (fun i => z.toArray[i % z.length]!) = (List.replicate n z).flatten := by
  apply List.ext_getElem?
  intro i
  induction n generalizing i with
  | zero => simp
  | succ n ih =>
    rw [List.replicate_succ, List.flatten_cons]
    by_cases hi : i < z.length
    · rw [List.getElem?_append_left hi]
      have : i < (n + 1) * z.length := Nat.lt_of_lt_of_le hi (by rw [Nat.succ_mul]; omega)
      simp [this, Nat.mod_eq_of_lt hi, hi]
    · rw [List.getElem?_append_right (by omega), ← ih (i - z.length)]
      by_cases hj : i - z.length < n * z.length
      · have h1 : i < (n + 1) * z.length := by rw [Nat.succ_mul]; omega
        have h2 : (i - z.length) % z.length = i % z.length := by rw [← Nat.mod_eq_sub_mod (by omega)]
        simp [h1, hj, h2]
      · have h1 : ¬ i < (n + 1) * z.length := by rw [Nat.succ_mul]; omega
        simp [h1, hj]

theorem concC_packI (ρ : Nat → Nat) (l : List AV) : concC ρ (packI l) = concC ρ l ∧ solidL (packI l) = solidL l ∧ refsL (packI l) = refsL l := by
  unfold packI
  split
  · rename_i k n l'
    split
    · rename_i xs hx
      obtain ⟨h1, h2⟩ := intsOf_spec hx
      have hints : ∀ (l : List AV) (xs : List Int), intsOf k l = some xs → solidL l = true ∧ refsL l = [] := by
        intro l
        induction l with
        | nil => intro xs _; simp [solidL, refsL]
        | cons v l ih =>
          intro xs h
          cases v <;> simp only [intsOf] at h <;> try (simp at h; done)
          split at h
          · cases hl : intsOf k l with
            | none => simp [hl] at h
            | some ys => obtain ⟨a, b⟩ := ih ys hl; simp [solidL, refsL, X.solid, refs, a, b]
          · simp at h
      obtain ⟨a, b⟩ := hints _ _ hx
      refine ⟨?_, ?_, ?_⟩
      · rw [h1 ρ]
        simp only [concC, conc, Value.cells, List.append_nil, arrCells]
        apply List.ext_getElem
        · simp
        · intro i h3 h4
          have : i < xs.length := by simpa using h4
          simp [this]
      · rw [a]; simp [solidL, X.solid]
      · rw [b]; simp [refsL, refs]
    · exact ⟨rfl, rfl, rfl⟩
  · exact ⟨rfl, rfl, rfl⟩

end
end Go.X
