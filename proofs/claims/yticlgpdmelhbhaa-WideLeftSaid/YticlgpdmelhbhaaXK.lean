/- Functions walked by calculation: from the body to what is said of the function. Plain: no program in sight. -/
import Derived.Test.YticlgpdmelhbhaaXJ
namespace Go.X

/-- the results -/
def res1 (T : TT) (s : St) : ResultVar → Option AV
  | .tmp t => if okv (s.ts.getD t .undef) then some (s.ts.getD t .undef) else none
  | .cell a t => loadA T s.mem t (s.ts.getD a .undef)
def resL (T : TT) (s : St) : List ResultVar → Option (List AV)
  | [] => some []
  | r :: l => match res1 T s r, resL T s l with
    | some v, some vs => some (v :: vs)
    | _, _ => none
def resA (T : TT) (s : St) (l : List ResultVar) : Option AV :=
  match resL T s l with
  | some [v] => some v
  | some vs => if solidL vs then some (.tup vs) else none
  | none => none

def initS (args : List AV) (ntmps : Nat) (m : List Blk) : St := ⟨args ++ List.replicate (ntmps - args.length) (.tup []), m, []⟩

/-- how a body ends: what it hands back, and what its memory then is; or its panic -/
def Ends (T : TT) (rs : List ResultVar) (R : AV → List Blk → Prop) (R' : AV → List Blk → Prop) (x : Ex) (s : St) : Prop :=
  match x with
  | .norm => s.df = [] ∧ ∃ v, resA T s rs = some v ∧ R v s.m
  | .ret => s.df = [] ∧ ∃ v, resA T s rs = some v ∧ R v s.m
  | .pan v => s.df = [] ∧ R' v s.m
  | .exit _ => False

section
variable {P : Program} {D : Nat → Prop} {ρ0 ρ : Nat → Nat} {w0 w : World} {T : TT} {S : ST} {mem : Mem} {m : List Blk}

def rrun (tmps : Array Value) : ResultVar → Sem Value
  | .tmp t => pure (tmps.getD t Go.undef)
  | .cell x t => do loadVar t (← asAddr (tmps.getD x Go.undef))
theorem results_eq (fn : Func) (tmps : Array Value) : results fn tmps = (do let vs ← fn.results.mapM (rrun tmps); pure (if h : vs.size = 1 then vs[0] else .tuple vs)) := by
  unfold results
  have e : (fun | .tmp t => pure (tmps.getD t Go.undef) | .cell a t => do loadVar t (← asAddr (tmps.getD a Go.undef)) : ResultVar → Sem Value) = rrun tmps := by funext r; cases r <;> rfl
  rw [← e]
  rfl

theorem res1_ok (hT : TOk P T) {s : St} {a : Act} (h : RS D ρ0 w0 ρ s a w) {r : ResultVar} {v : AV} (hr : res1 T s r = some v) :
    (rrun a.tmps r).run P w = .ok (conc ρ v) w ∧ okv v = true ∧ ∀ c ∈ refs v, s.mem c ≠ none := by
  cases r with
  | tmp t =>
    simp only [res1] at hr
    split at hr
    · rename_i hok
      simp only [Option.some.injEq] at hr
      subst hr
      obtain ⟨e1, e2, e3⟩ := (h.tmps t).get (by intro e; rw [e] at hok; simp [okv, solid] at hok)
      exact ⟨by simp only [rrun, e1]; rfl, e2, e3⟩
    · simp at hr
  | cell x t =>
    simp only [res1] at hr
    obtain ⟨l1, l2, l3⟩ := load_ok hT h.inv hr (h.tmps x)
    refine ⟨?_, l2, l3⟩
    have hp : ∃ b o, s.ts.getD x .undef = .ptr b o := by
      revert hr
      generalize s.ts.getD x AV.undef = q
      intro hr
      cases q <;> first | exact ⟨_, _, rfl⟩ | (simp [loadA] at hr)
    obtain ⟨b, o, hb⟩ := hp
    obtain ⟨e1, -, -⟩ := (h.tmps x).get (by rw [hb]; simp)
    rw [hb, conc] at e1
    rw [e1] at l1
    simp only [rrun, e1]
    simpa [Instr.loadAt, Instr.sureAddr, asAddr] using l1

theorem resL_ok (hT : TOk P T) {s : St} {a : Act} (h : RS D ρ0 w0 ρ s a w) : ∀ {l : List ResultVar} {vs : List AV}, resL T s l = some vs →
    (l.mapM (rrun a.tmps)).run P w = .ok (vs.map (conc ρ)) w ∧ (∀ v ∈ vs, okv v = true) ∧ ∀ c ∈ refsL vs, s.mem c ≠ none
  | [], vs, hr => by simp only [resL, Option.some.injEq] at hr; subst hr; simp [refsL]
  | r :: l, vs, hr => by
    simp only [resL] at hr
    split at hr
    · rename_i v vs' h1 h2
      simp only [Option.some.injEq] at hr
      subst hr
      obtain ⟨a1, a2, a3⟩ := res1_ok hT h h1
      obtain ⟨b1, b2, b3⟩ := resL_ok hT h h2
      refine ⟨?_, ?_, ?_⟩
      · rw [List.mapM_cons]
        simp only [Sem.run_bind, a1, b1, Result.andThen_ok, Sem.run_pure, List.map_cons]
      · intro u hu
        simp only [List.mem_cons] at hu
        rcases hu with rfl | hu
        · exact a2
        · exact b2 u hu
      · intro c hc
        simp only [refsL, List.mem_append] at hc
        rcases hc with hc | hc
        · exact a3 c hc
        · exact b3 c hc
    · simp at hr

theorem resA_ok (hT : TOk P T) {fn : Func} {s : St} {a : Act} (h : RS D ρ0 w0 ρ s a w) {v : AV} (hr : resA T s fn.results.toList = some v) :
    (results fn a.tmps).run P w = .ok (conc ρ v) w ∧ okv v = true ∧ ∀ c ∈ refs v, s.mem c ≠ none := by
  unfold resA at hr
  have main : ∀ vs, resL T s fn.results.toList = some vs → (results fn a.tmps).run P w = .ok (match vs with | [v] => conc ρ v | vs => .tuple (concT ρ vs).toArray) w ∧ (∀ v ∈ vs, okv v = true) ∧ ∀ c ∈ refsL vs, s.mem c ≠ none := by
    intro vs hvs
    obtain ⟨h1, h2, h3⟩ := resL_ok hT h hvs
    refine ⟨?_, h2, h3⟩
    rw [results_eq, Array.mapM_eq_mapM_toList]
    simp only [Sem.run_bind, Sem.run_map, h1, Result.andThen_ok, Sem.run_pure]
    match vs with
    | [] => simp [concT]
    | [v] => simp
    | v :: u :: vs => simp [concT_eq]
  split at hr
  · rename_i u hu
    simp only [Option.some.injEq] at hr
    subst hr
    obtain ⟨m1, m2, m3⟩ := main _ hu
    exact ⟨m1, m2 _ (by simp), by simpa [refsL] using m3⟩
  · rename_i vs hn hvs
    split at hr
    · rename_i hso
      simp only [Option.some.injEq] at hr
      subst hr
      obtain ⟨m1, m2, m3⟩ := main _ hvs
      refine ⟨?_, hso, by simpa [refs] using m3⟩
      rw [m1]
      match vs, hn with
      | [], _ => rfl
      | [v], hn => exact (hn v rfl).elim
      | v :: u :: vs, _ => rfl
    · simp at hr
  · simp at hr

theorem init_ok (h : Inv D ρ0 w0 ρ (fun b => m[b]?) w) {args : List AV} (ha : solidL args = true) (hr : ∀ c ∈ refsL args, (fun b => m[b]?) c ≠ none) (n : Nat) :
    RS D ρ0 w0 ρ (initS args n m) { tmps := (args.map (conc ρ)).toArray ++ Array.replicate (n - (args.map (conc ρ)).toArray.size) Go.undef, defers := [] } w := by
  refine ⟨h, fun t => ?_, by simp [initS], rfl, by simp [initS]⟩
  simp only [initS, List.getD_eq_getElem?_getD, Array.getD_eq_getD_getElem?, Array.getElem?_append, List.getElem?_append, List.size_toArray, List.length_map]
  by_cases ht : t < args.length
  · simp only [ht, if_true, List.getElem?_toArray, List.getElem?_map, List.getElem?_eq_getElem ht, Option.map_some, Option.getD_some]
    have hm : args[t] ∈ args := List.getElem_mem ht
    exact .inr ⟨rfl, okv_of_solid (mem_solidL.1 ha _ hm), fun c hc => hr c (mem_refsL.2 ⟨_, hm, hc⟩)⟩
  · simp only [ht, if_false, List.getElem?_replicate, Array.getElem?_replicate]
    by_cases h2 : t - args.length < n - args.length
    · simp only [h2, if_true, Option.getD_some]
      exact .inr ⟨rfl, rfl, by simp [refs, refsL]⟩
    · simp only [h2, if_false, Option.getD_none]
      exact .inl rfl

/-- a body without deferred calls -/
theorem calls_ok {chk : Array Oper → Option DM → Bool} (hchk : DrawSound P chk) (hT : TOk P T) (hS : STok P S) {L : Nat → Option DM} {n : Nat} {f : FuncId} {fn : Func} {c : Code} (hf : P.funcs[f]? = some fn) (hb : fn.body = some c) (hd : drawsOk chk L c = true)
    (h : Inv D ρ0 w0 ρ (fun b => m[b]?) w) {args : List AV} (ha : solidL args = true) (hr : ∀ c ∈ refsL args, (fun b => m[b]?) c ≠ none) {R R' : AV → List Blk → Prop}
    (hg : Good (exec T S L n c (initS args fn.ntmps m)) (Ends T fn.results.toList R R')) :
    Calls P f (args.map (conc ρ)).toArray w fun e w' => ∃ ρ' v m', Inv D ρ0 w0 ρ' (fun b => m'[b]?) w' ∧ (∀ c ∈ refs v, (fun b => m'[b]?) c ≠ none) ∧ okv v = true ∧
      ((e = .returned (conc ρ' v) ∧ R v m') ∨ (e = .panicked [{ v := conc ρ' v, recovered := false }] ∧ solid v = true ∧ R' v m')) := by
  refine calls_of_wp hf hb (wp_mono (exec_ok hchk hT hS c hd (init_ok h ha hr fn.ntmps) hg) fun e a w' hp => ?_)
  obtain ⟨x, s, ρ', h1, h2, h3⟩ := hp
  cases x with
  | norm =>
    subst h3
    obtain ⟨hdf, v, hv, hR⟩ := h2
    obtain ⟨r1, r2, r3⟩ := resA_ok hT h1 hv
    exact ⟨by rw [h1.defers, hdf]; rfl, _, r1, ρ', v, s.m, h1.inv, r3, r2, .inl ⟨rfl, hR⟩⟩
  | ret =>
    subst h3
    obtain ⟨hdf, v, hv, hR⟩ := h2
    obtain ⟨r1, r2, r3⟩ := resA_ok hT h1 hv
    exact ⟨by rw [h1.defers, hdf]; rfl, _, r1, ρ', v, s.m, h1.inv, r3, r2, .inl ⟨rfl, hR⟩⟩
  | pan v =>
    obtain ⟨rfl, h4, h5⟩ := h3
    obtain ⟨hdf, hR⟩ := h2
    exact ⟨by rw [h1.defers, hdf]; rfl, ρ', v, s.m, h1.inv, h5, okv_of_solid h4, .inr ⟨rfl, h4, hR⟩⟩
  | exit id => exact h2.elim

/-- it has a body: a call enters it -/
theorem callFunc_enter {f : FuncId} {fn : Func} (hf : P.funcs[f]? = some fn) (hn : (fn.name == "runtime.NumGoroutine") = false) (hb : fn.body.isSome = true) (args : Array Value) : (callFunc f args).run P w = .ok (.enter f args) w := by
  have hb' : fn.body.isNone = false := by cases h : fn.body <;> simp_all
  simp only [callFunc, Sem.run_bind, run_program, Result.andThen_ok, hf, hn, hb', Bool.false_eq_true, if_false, Sem.run_pure]

/-- what a pure function is said to be: numbers in, numbers out, or a panic -/
inductive PR where
  | val (v : AV)
  | pan (v : AV)
  | fail
def pureS (g : List AV → PR) : Sum := fun args _ _ => match g args with
  | .val v => .val v [] []
  | .pan v => .pan v [] []
  | .fail => .fail

theorem Inv.from (h : Inv D ρ0 w0 ρ mem w) {ρ' : Nat → Nat} {m' : Mem} {w' : World} (k : Inv (fun b => (fun _ => none : Mem) b ≠ none) ρ w ρ' m' w') : Inv D ρ0 w0 ρ mem w' := by
  have hold : ∀ i, i < w.heap.size → w'.heap[i]? = w.heap[i]? := fun i hi => k.old i hi (fun b hb => (hb rfl).elim)
  refine ⟨fun b blk hb => ?_, h.inj, h.ref, h.ent, h.new, k.os.trans h.os, k.tape.trans h.tape, k.output.trans h.output, Nat.le_trans h.size k.size, fun i hi hD => ?_⟩
  · rw [hold _ (h.lt (by rw [hb]; simp))]; exact h.row b blk hb
  · rw [hold _ (Nat.lt_of_lt_of_le hi h.size)]; exact h.old i hi hD

/-- the same to the machine -/
def Eqv (u v : AV) : Prop := ∀ ρ, conc ρ u = conc ρ v
theorem Eqv.refl (u : AV) : Eqv u u := fun _ => rfl

/-- a pure function -/
theorem sum_pure {chk : Array Oper → Option DM → Bool} (hchk : DrawSound P chk) (hT : TOk P T) (hS : STok P S) {L : Nat → Option DM} {n : Nat} {f : FuncId} {fn : Func} {c : Code} (hf : P.funcs[f]? = some fn) (hb : fn.body = some c)
    (hn : (fn.name == "runtime.NumGoroutine") = false) (hd : drawsOk chk L c = true) {g : List AV → PR}
    (hg : ∀ args, g args ≠ .fail → refsL args = [] ∧ (match g args with
      | .val v => okv v = true ∧ refs v = [] ∧ Good (exec T S L n c (initS args fn.ntmps [])) (Ends T fn.results.toList (fun u _ => Eqv u v) fun _ _ => False)
      | .pan v => solid v = true ∧ refs v = [] ∧ Good (exec T S L n c (initS args fn.ntmps [])) (Ends T fn.results.toList (fun _ _ => False) fun u _ => Eqv u v)
      | .fail => True)) : SumOk P f (pureS g) := by
  intro args D ρ0 w0 ρ mem nxt w hnf hso hrf hfr hi
  have hnf' : g args ≠ .fail := by intro e; simp [pureS, e] at hnf
  obtain ⟨hra, hgo⟩ := hg args hnf'
  refine .inr ⟨callFunc_enter hf hn (by rw [hb]; rfl) _, ?_⟩
  have start : Inv (fun b => (fun _ => none : Mem) b ≠ none) ρ w ρ (fun b => ([] : List Blk)[b]?) w := by
    have := Inv.start (w := w) (ρ := ρ) (mem := fun b => ([] : List Blk)[b]?) (by simp) (by simp) (by simp)
    simpa using this
  unfold pureS
  cases hv : g args with
  | fail => exact absurd hv hnf'
  | val v =>
    rw [hv] at hgo
    obtain ⟨g1, g2, g3⟩ := hgo
    refine (calls_ok hchk hT hS hf hb hd start hso (by rw [hra]; simp) g3).mono fun e w' he => ?_
    obtain ⟨ρ', u, m', k1, k2, k3, ⟨rfl, hE⟩ | ⟨-, -, hF⟩⟩ := he
    · refine ⟨ρ, conc ρ v, by rw [hE ρ', conc_noref g2 ρ' ρ], .inr ⟨rfl, g1, by rw [g2]; simp⟩, ?_, ?_, ?_⟩
      · rintro rfl; simp [okv, solid] at g1
      · rw [memNew_nil, memUp_nil]; exact hi.from k1
      · rw [memNew_nil, memUp_nil]; exact Later.refl _ _
    · exact hF.elim
  | pan v =>
    rw [hv] at hgo
    obtain ⟨g1, g2, g3⟩ := hgo
    refine (calls_ok hchk hT hS hf hb hd start hso (by rw [hra]; simp) g3).mono fun e w' he => ?_
    obtain ⟨ρ', u, m', k1, k2, k3, ⟨-, hF⟩ | ⟨rfl, k4, hE⟩⟩ := he
    · exact hF.elim
    · refine ⟨ρ, by rw [hE ρ', conc_noref g2 ρ' ρ], g1, by rw [g2]; simp, ?_, ?_⟩
      · rw [memNew_nil, memUp_nil]; exact hi.from k1
      · rw [memNew_nil, memUp_nil]; exact Later.refl _ _

/-- a pure function, case by case -/
theorem sum_fn {chk : Array Oper → Option DM → Bool} (hchk : DrawSound P chk) (hT : TOk P T) (hS : STok P S) {L : Nat → Option DM} {n : Nat} {f : FuncId} {fn : Func} {c : Code} (hf : P.funcs[f]? = some fn) (hb : fn.body = some c)
    (hn : (fn.name == "runtime.NumGoroutine") = false) (hd : drawsOk chk L c = true) {g : List AV → PR}
    (hv : ∀ args v, g args = .val v → refsL args = [] ∧ okv v = true ∧ refs v = [] ∧ Good (exec T S L n c (initS args fn.ntmps [])) (Ends T fn.results.toList (fun u _ => Eqv u v) fun _ _ => False))
    (hp : ∀ args v, g args = .pan v → refsL args = [] ∧ solid v = true ∧ refs v = [] ∧ Good (exec T S L n c (initS args fn.ntmps [])) (Ends T fn.results.toList (fun _ _ => False) fun u _ => Eqv u v)) : SumOk P f (pureS g) := by
  refine sum_pure (n := n) hchk hT hS hf hb hn hd fun args hne => ?_
  cases hg : g args with
  | val v => obtain ⟨a, b⟩ := hv args v hg; exact ⟨a, b⟩
  | pan v => obtain ⟨a, b⟩ := hp args v hg; exact ⟨a, b⟩
  | fail => exact absurd hg hne

end
end Go.X
