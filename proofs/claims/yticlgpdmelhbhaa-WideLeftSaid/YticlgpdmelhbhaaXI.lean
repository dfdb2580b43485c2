/- Code walked by calculation: states, calls by what is known of the callee, regions, branches, loops; and that the machine does the same. Plain: no program in sight. -/
import Derived.Test.YticlgpdmelhbhaaXH
import Derived.LoopN
import Derived.Defers
namespace Go.X

/-- what a function comes to: like an operation, or for some number -/
inductive CR where
  | val (v : AV) (up : List (Nat × List AV)) (nw : List Blk)
  | pan (v : AV) (up : List (Nat × List AV)) (nw : List Blk)
  | any (k : Nat → CR)
  | fail
/-- what is known of a function: of its arguments, the blocks that they name, and the first number of a new block -/
abbrev Sum := List AV → (Nat → Option Blk) → Nat → CR
abbrev ST := FuncId → Option Sum

structure St where
  ts : List AV
  m : List Blk
  df : List (FuncId × List AV)

def St.mem (s : St) : Mem := fun b => s.m[b]?
def St.put (s : St) (d : Option Tmp) (v : AV) : St := match d with
  | some t => { s with ts := s.ts.set t v }
  | none => s

def upM (m : List Blk) : List (Nat × List AV) → List Blk
  | [] => m
  | (b, l) :: up => upM (m.modify b fun k => { k with items := l }) up

theorem upM_length : ∀ (up : List (Nat × List AV)) (m : List Blk), (upM m up).length = m.length
  | [], m => rfl
  | (b, l) :: up, m => by simp only [upM]; rw [upM_length up]; simp
theorem upM_mem : ∀ (up : List (Nat × List AV)) (m : List Blk), (fun b => (upM m up)[b]?) = memUp (fun b => m[b]?) up
  | [], m => rfl
  | (b, l) :: up, m => by
    simp only [upM, memUp]
    rw [upM_mem up]
    congr 1
    funext c
    rw [List.getElem?_modify]
    by_cases h : c = b
    · subst h; simp
    · have : ¬ b = c := fun e => h e.symm
      simp [h, this]
theorem newM_mem (m : List Blk) (up : List (Nat × List AV)) (nw : List Blk) : (fun b => (upM m up ++ nw)[b]?) = memNew (memUp (fun b => m[b]?) up) m.length nw := by
  funext b
  have hl := upM_length up m
  rw [← upM_mem]
  unfold memNew
  by_cases h : b < m.length
  · rw [List.getElem?_append_left (by omega), if_neg (by omega)]
  · rw [List.getElem?_append_right (by omega), hl]
    by_cases h2 : b < m.length + nw.length
    · rw [if_pos (by omega)]
    · rw [if_neg (by omega), List.getElem?_eq_none (by omega)]
      exact (List.getElem?_eq_none (by omega : (upM m up).length ≤ b)).symm

inductive Ex where
  | norm
  | exit (id : Nat)
  | ret
  | pan (v : AV)

inductive Out where
  | fin (x : Ex) (s : St)
  | any (k : Nat → Out)
  | fail

def Out.bind : Out → (St → Out) → Out
  | .fin .norm s, f => f s
  | .fin x s, _ => .fin x s
  | .any k, f => .any fun n => (k n).bind f
  | .fail, _ => .fail

/-- whatever the unknown numbers: not stuck, and it ends so -/
def Good : Out → (Ex → St → Prop) → Prop
  | .fin x s, Q => Q x s
  | .any k, Q => ∀ n, Good (k n) Q
  | .fail, _ => False

def Ex.seq (f : St → Prop) (Q : Ex → St → Prop) : Ex → St → Prop
  | .norm, s => f s
  | x, s => Q x s

theorem Good.bind {Q : Ex → St → Prop} {f : St → Out} : ∀ {o : Out}, Good (o.bind f) Q → Good o (Ex.seq (fun s => Good (f s) Q) Q)
  | .fin x s, h => by cases x <;> exact h
  | .any k, h => fun n => Good.bind (h n)
  | .fail, h => h

/-- 'fail' among the numbers: those that don't occur -/
def ofCR (d : Option Tmp) (s : St) : CR → Out
  | .val v up nw => .fin .norm (St.put { s with m := upM s.m up ++ nw } d v)
  | .pan v up nw => .fin (.pan v) { s with m := upM s.m up ++ nw }
  | .any k => .any fun n => ofCR d s (k n)
  | .fail => .fail
def ofOR (d : Option Tmp) (s : St) : OR → Out
  | .val v up nw => .fin .norm (St.put { s with m := upM s.m up ++ nw } d v)
  | .pan v up nw => .fin (.pan v) { s with m := upM s.m up ++ nw }
  | .fail => .fail

/-- only what the arguments name -/
def envOf (mem : Mem) (l : List Nat) : Mem := fun b => if b ∈ l then mem b else none

def doOp (T : TT) (S : ST) (o : Oper) (s : St) : Out :=
  match o.op with
  | .call { callee := .value f, args, argTypes := _ } => match evA s.ts f with
    | .fn id cap => match S id with
      | some g => if solidL (args.toList.map (evA s.ts) ++ cap) then ofCR o.dst s (g (args.toList.map (evA s.ts) ++ cap) (envOf s.mem (refsL (args.toList.map (evA s.ts) ++ cap))) s.m.length) else .fail
      | none => .fail
    | _ => .fail
  | .defer { callee := .value f, args, argTypes := _ } => match evA s.ts f with
    | .fn id cap => if args.isEmpty then .fin .norm (St.put { s with df := (id, cap) :: s.df } o.dst (.tup [])) else .fail
    | _ => .fail
  | op => ofOR o.dst s (opA T s.mem s.m.length (evA s.ts) op)

def opsA (T : TT) (S : ST) (ops : Array Oper) : List Oper → St → Out
  | [], s => .fin .norm s
  | o :: rest, s => match o.guard with
    | none => (doOp T S o s).bind (opsA T S ops rest)
    | some (j, want) => match (ops[j]?).bind (·.dst) with
      | none => opsA T S ops rest (s.put o.dst (.tup []))
      | some d => match s.ts.getD d .undef with
        | .bool b => if b = want then (doOp T S o s).bind (opsA T S ops rest) else opsA T S ops rest (s.put o.dst (.tup []))
        | .undef => .fail
        | _ => opsA T S ops rest (s.put o.dst (.tup []))

/-- What is asked of what is said of a function. -/
def CRpost (D : Nat → Prop) (ρ0 : Nat → Nat) (w0 : World) (ρ : Nat → Nat) (mem : Mem) (nxt : Nat) : CR → Ending → World → Prop
  | .val v up nw, e, w' => ∃ ρ' x, e = .returned x ∧ SR ρ' (memNew (memUp mem up) nxt nw) v x ∧ v ≠ .undef ∧ Inv D ρ0 w0 ρ' (memNew (memUp mem up) nxt nw) w' ∧ Later ρ mem ρ' (memNew (memUp mem up) nxt nw)
  | .pan v up nw, e, w' => ∃ ρ', e = .panicked [{ v := conc ρ' v, recovered := false }] ∧ solid v = true ∧ (∀ c ∈ refs v, memNew (memUp mem up) nxt nw c ≠ none) ∧ Inv D ρ0 w0 ρ' (memNew (memUp mem up) nxt nw) w' ∧ Later ρ mem ρ' (memNew (memUp mem up) nxt nw)
  | .any k, e, w' => ∃ n, CRpost D ρ0 w0 ρ mem nxt (k n) e w'
  | .fail, _, _ => False

/-- a call of function f: it is entered, or done in place -/
def CallOk (P : Program) (f : FuncId) (args : Array Value) (w : World) (R : Ending → World → Prop) : Prop :=
  (∃ v w', (callFunc f args).run P w = .ok (.value v) w' ∧ R (.returned v) w') ∨ ((callFunc f args).run P w = .ok (.enter f args) w ∧ Calls P f args w R)

def CR.ok : CR → Prop
  | .fail => False
  | .any k => ∃ n, (k n).ok
  | _ => True

/-- the j-th new block is one of its -/
def CR.news : CR → Nat → Prop
  | .val _ _ nw, j => j < nw.length
  | .pan _ _ nw, j => j < nw.length
  | .any k, j => ∃ n, (k n).news j
  | .fail, _ => False

/-- What is said of function f is so: in whatever memory. -/
def SumOk (P : Program) (f : FuncId) (g : Sum) : Prop :=
  ∀ (args : List AV) (D : Nat → Prop) (ρ0 : Nat → Nat) (w0 : World) (ρ : Nat → Nat) (mem : Mem) (nxt : Nat) (w : World),
    g args (envOf mem (refsL args)) nxt ≠ .fail → solidL args = true → (∀ c ∈ refsL args, mem c ≠ none) → (∀ j, (g args (envOf mem (refsL args)) nxt).news j → mem (nxt + j) = none) → Inv D ρ0 w0 ρ mem w →
    CallOk P f (args.map (conc ρ)).toArray w (CRpost D ρ0 w0 ρ mem nxt (g args (envOf mem (refsL args)) nxt))

def STok (P : Program) (S : ST) : Prop := ∀ f g, S f = some g → SumOk P f g

section
variable {P : Program} {D : Nat → Prop} {ρ0 ρ : Nat → Nat} {w0 w : World} {T : TT} {S : ST}

structure RS (D : Nat → Prop) (ρ0 : Nat → Nat) (w0 : World) (ρ : Nat → Nat) (s : St) (a : Act) (w : World) : Prop where
  inv : Inv D ρ0 w0 ρ s.mem w
  tmps : ∀ t, SR ρ s.mem (s.ts.getD t .undef) (a.tmps.getD t Go.undef)
  size : a.tmps.size = s.ts.length
  defers : a.defers = s.df.map fun d => { target := .fn (.func d.1) (concT ρ d.2).toArray, args := #[] }
  dref : ∀ d ∈ s.df, solidL d.2 = true ∧ ∀ c ∈ refsL d.2, s.mem c ≠ none

theorem St.fresh (s : St) (j : Nat) : s.mem (s.m.length + j) = none := by simp [St.mem]

theorem absV_spec (v : Value) (ρ : Nat → Nat) (mem : Mem) : SR ρ mem (absV v) v := by
  unfold absV
  split <;> first
    | exact .inl rfl
    | exact .inr ⟨rfl, rfl, by simp [refs, refsL]⟩

theorem RS.ev {s : St} {a : Act} (h : RS D ρ0 w0 ρ s a w) (x : Operand) : SR ρ s.mem (evA s.ts x) (a.eval x) := by
  cases x with
  | tmp t => exact h.tmps t
  | const v => exact absV_spec v ρ _
  | global g => exact .inl rfl
  | func f => exact .inr ⟨rfl, rfl, by simp [evA, refs, refsL]⟩

/-- a slot written, in a later memory -/
theorem RS.put {s : St} {a : Act} (h : RS D ρ0 w0 ρ s a w) {m' : List Blk} {ρ' : Nat → Nat} {w' : World} (hi : Inv D ρ0 w0 ρ' (fun b => m'[b]?) w') (hl : Later ρ s.mem ρ' fun b => m'[b]?) {v : AV} {x : Value}
    (hv : SR ρ' (fun b => m'[b]?) v x) (d : Option Tmp) : RS D ρ0 w0 ρ' (St.put { s with m := m' } d v) (a.put d x) w' := by
  have hd : a.defers = s.df.map fun d => { target := .fn (.func d.1) (concT ρ' d.2).toArray, args := #[] } := by
    rw [h.defers]
    apply List.map_congr_left
    intro d hd
    rw [concT_congr d.2 fun c hc => ((hl c ((h.dref d hd).2 c hc)).1).symm]
  have hr : ∀ d ∈ s.df, solidL d.2 = true ∧ ∀ c ∈ refsL d.2, (fun b => m'[b]?) c ≠ none := fun d hd => ⟨(h.dref d hd).1, fun c hc => (hl c ((h.dref d hd).2 c hc)).2⟩
  cases d with
  | none => exact ⟨hi, fun t => (h.tmps t).later hl, h.size, hd, hr⟩
  | some d =>
    refine ⟨hi, fun t => ?_, ?_, hd, hr⟩
    · simp only [St.put, Act.put, List.getD_eq_getElem?_getD, Array.getD_eq_getD_getElem?, List.getElem?_set, Array.getElem?_setIfInBounds, h.size]
      by_cases hdt : d = t
      · subst hdt
        by_cases hlt : d < s.ts.length
        · simp [hlt]; exact hv
        · simp [hlt]; exact .inl rfl
      · simp only [hdt, if_false]
        have := (h.tmps t).later hl
        simp only [List.getD_eq_getElem?_getD, Array.getD_eq_getD_getElem?] at this
        exact this
    · simp [St.put, Act.put, h.size]

/-- what the machine comes to, against what was reckoned -/
def Post (D : Nat → Prop) (ρ0 : Nat → Nat) (w0 : World) (Q : Ex → St → Prop) (e : Exit) (a : Act) (w : World) : Prop :=
  ∃ x s ρ, RS D ρ0 w0 ρ s a w ∧ Q x s ∧ (match x with
    | .norm => e = .normal
    | .exit id => e = .exit id
    | .ret => e = .ret
    | .pan v => e = .panic [{ v := conc ρ v, recovered := false }] ∧ solid v = true ∧ ∀ c ∈ refs v, s.mem c ≠ none)

theorem Post.mono {Q Q' : Ex → St → Prop} (hq : ∀ x s, Q x s → Q' x s) {e : Exit} {a : Act} {w : World} (h : Post D ρ0 w0 Q e a w) : Post D ρ0 w0 Q' e a w :=
  let ⟨x, s, ρ, h1, h2, h3⟩ := h; ⟨x, s, ρ, h1, hq _ _ h2, h3⟩

theorem Act.put_other (a : Act) (d : Option Tmp) (x : Value) (t : Tmp) (h : d ≠ some t) : (a.put d x).tmps.getD t Go.undef = a.tmps.getD t Go.undef := by
  cases d with
  | none => rfl
  | some d =>
    have : d ≠ t := fun e => h (by rw [e])
    simp only [Act.put, Array.getD_eq_getD_getElem?, Array.getElem?_setIfInBounds, this, if_false]
theorem St.put_mem (s : St) (d : Option Tmp) (v : AV) : (s.put d v).mem = s.mem := by cases d <;> rfl

/-- one operation: what follows, from what was reckoned -/
theorem doOp_ok (hT : TOk P T) (hS : STok P S) {o : Oper} {s : St} {a : Act} (h : RS D ρ0 w0 ρ s a w) {Q : Ex → St → Prop} (hg : Good (doOp T S o s) Q) {next : Act → World → Prop} {R : Exit → Act → World → Prop}
    (hn : ∀ s' ρ' a' w', RS D ρ0 w0 ρ' s' a' w' → Q .norm s' → Later ρ s.mem ρ' s'.mem → (∀ t, o.dst ≠ some t → a'.tmps.getD t Go.undef = a.tmps.getD t Go.undef) → next a' w') (hp : ∀ e a' w', Post D ρ0 w0 (Ex.seq (fun _ => False) Q) e a' w' → R e a' w') : o.wp P a w next R := by
  have plain : ∀ r : OR, doOp T S o s = ofOR o.dst s (opA T s.mem s.m.length (evA s.ts) o.op) → o.wp P a w next R := by
    intro _ hd
    rw [hd] at hg
    cases hr : opA T s.mem s.m.length (evA s.ts) o.op with
    | val v up nw =>
      rw [hr] at hg
      simp only [ofOR, Good] at hg
      obtain ⟨nx, w', ρ', x, c1, c2, c3, c4, c5⟩ := opA_ok hT h.inv (fun _ => show s.mem s.m.length = none from s.fresh 0) (fun x => h.ev x) hr
      rw [show s.mem = fun b => s.m[b]? from rfl, ← newM_mem] at c3 c4 c5
      have hput := h.put c4 c5 c3 o.dst
      unfold Oper.wp
      rw [c1]
      rcases c2 with rfl | ⟨rfl, rfl⟩
      · exact hn _ _ _ _ hput hg (by rw [St.put_mem]; exact c5) (Act.put_other a o.dst _)
      · exact hn _ _ _ _ hput hg (by rw [St.put_mem]; exact c5) (Act.put_other a o.dst _)
    | pan v up nw =>
      rw [hr] at hg
      simp only [ofOR, Good] at hg
      -- only 'panic'
      have : ∃ x t u, o.op = .panic x ∧ evA s.ts x = .iface t u ∧ v = .iface t u ∧ up = [] ∧ nw = [] := by
        unfold opA at hr
        split at hr <;> first
          | (split at hr <;> first
              | (simp at hr; done)
              | (split at hr <;> first
                  | (simp at hr; done)
                  | (split at hr <;> first
                      | (simp at hr; done)
                      | (split at hr <;> first
                          | (simp at hr; done)
                          | (split at hr <;> simp at hr; done))))
              | (rename_i x t u hx
                 injection hr with h1 h2 h3
                 exact ⟨_, _, _, by assumption, hx, h1.symm, h2.symm, h3.symm⟩))
          | (simp at hr; done)
      obtain ⟨x, t, u, ho, hx, rfl, rfl, rfl⟩ := this
      obtain ⟨ex, es, ec⟩ := (h.ev x).get (by rw [hx]; simp)
      rw [hx] at ex es ec
      unfold Oper.wp
      have : (execOp a.eval o).run P w = .halt (.panic (conc ρ (.iface t u))) w := by
        unfold execOp
        rw [ho]
        simp only [ex, conc, Instr.panic, Sem.run_bind, run_goPanic, Result.andThen_halt]
      rw [this]
      refine hp _ _ _ ⟨.pan (.iface t u), _, ρ, h, ?_, rfl, by simpa [okv] using es, ec⟩
      have e : ({ s with m := upM s.m [] ++ [] } : St) = s := by simp [upM]
      rw [e] at hg
      exact hg
    | fail => rw [hr] at hg; exact hg.elim
  unfold doOp at hg
  split at hg
  · -- a call
    rename_i f args at_ ho
    split at hg
    · rename_i id cap hf
      split at hg
      · rename_i g hSid
        split at hg
        · rename_i hso
          obtain ⟨ef, sf, cf⟩ := (h.ev f).get (by rw [hf]; simp)
          rw [hf] at ef sf cf
          rw [solidL_append, Bool.and_eq_true] at hso
          have hargs := map_ev (fun x => h.ev x) (l := args.toList) rfl (mem_solidL.1 hso.1)
          have hrf : ∀ c ∈ refsL (args.toList.map (evA s.ts) ++ cap), s.mem c ≠ none := by
            intro c hc
            rw [refsL_append, List.mem_append] at hc
            rcases hc with hc | hc
            · obtain ⟨u, hu, hc⟩ := mem_refsL.1 hc
              obtain ⟨x, -, rfl⟩ := List.mem_map.1 hu
              exact (h.ev x).refs_mem c hc
            · exact cf c (by simpa [refs] using hc)
          have hnf : g (args.toList.map (evA s.ts) ++ cap) (envOf s.mem (refsL (args.toList.map (evA s.ts) ++ cap))) s.m.length ≠ .fail := by
            intro e; rw [e] at hg; exact hg
          have hcall := hS id g hSid _ D ρ0 w0 ρ s.mem s.m.length w hnf (by rw [solidL_append, hso.1, hso.2]; rfl) hrf (fun j _ => s.fresh j) h.inv
          have hexec : (execOp a.eval o).run P w = (callFunc id ((args.toList.map (evA s.ts) ++ cap).map (conc ρ)).toArray).run P w := by
            unfold execOp
            rw [ho]
            simp only [resolve, ef, conc, Deferred.ofValue, Sem.run_bind, Sem.run_pure, Result.andThen_ok, invoke]
            congr 2
            apply Array.toList_inj.1
            simp [hargs, concT_eq]
          have fin : ∀ (r : CR), Good (ofCR o.dst s r) Q → ∀ e w', CRpost D ρ0 w0 ρ s.mem s.m.length r e w' →
              match e with
              | .returned x => next (a.put o.dst x) w'
              | .panicked chain => R (.panic chain) a w'
              | .outgrown => LetsOut R := by
            intro r
            induction r with
            | val v up nw =>
              intro hg e w' hpost
              obtain ⟨ρ', x, rfl, c3, -, c4, c5⟩ := hpost
              rw [show s.mem = fun b => s.m[b]? from rfl, ← newM_mem] at c3 c4 c5
              exact hn _ _ _ _ (h.put c4 c5 c3 o.dst) hg (by rw [St.put_mem]; exact c5) (Act.put_other a o.dst _)
            | pan v up nw =>
              intro hg e w' hpost
              obtain ⟨ρ', rfl, c1, c2, c4, c5⟩ := hpost
              rw [show s.mem = fun b => s.m[b]? from rfl, ← newM_mem] at c2 c4 c5
              have := h.put c4 c5 (SR.undef _ _ Go.undef) none
              exact hp _ _ _ ⟨.pan v, _, ρ', this, hg, rfl, c1, c2⟩
            | any k ih =>
              intro hg e w' hpost
              obtain ⟨n, hpost⟩ := hpost
              exact ih n (hg n) e w' hpost
            | fail => intro hg; exact hg.elim
          unfold Oper.wp
          rw [hexec]
          rcases hcall with ⟨v, w', hr, hpost⟩ | ⟨hr, hcalls⟩
          · rw [hr]
            exact fin _ hg _ _ hpost
          · rw [hr]
            refine hcalls.mono fun e w' hpost => ?_
            have := fin _ hg e w' hpost
            cases e <;> exact this
        · exact hg.elim
      · exact hg.elim
    · exact hg.elim
  · -- a deferred call
    rename_i f args at_ ho
    split at hg
    · rename_i id cap hf
      split at hg
      · rename_i hem
        rw [Array.isEmpty_iff] at hem
        subst hem
        obtain ⟨ef, sf, cf⟩ := (h.ev f).get (by rw [hf]; simp)
        rw [hf] at ef sf cf
        have hexec : (execOp a.eval o).run P w = .ok (.defer { target := .fn (.func id) (concT ρ cap).toArray, args := #[] }) w := by
          unfold execOp
          rw [ho]
          simp [resolve, ef, conc, Deferred.ofValue]
        unfold Oper.wp
        rw [hexec]
        simp only [Good] at hg
        refine hn _ ρ _ w ?_ hg (by rw [St.put_mem]; exact Later.refl _ _) (fun t ht => Act.put_other _ o.dst _ t ht)
        have hbase : RS D ρ0 w0 ρ { s with df := (id, cap) :: s.df } { a with defers := { target := .fn (.func id) (concT ρ cap).toArray, args := #[] } :: a.defers } w := by
          refine ⟨h.inv, h.tmps, h.size, ?_, ?_⟩
          · simp [h.defers]
          · intro d hd
            simp only [List.mem_cons] at hd
            rcases hd with rfl | hd
            · exact ⟨by simpa [okv, solid] using sf, fun c hc => cf c (by simpa [refs] using hc)⟩
            · exact h.dref d hd
        exact hbase.put hbase.inv (Later.refl _ _) (.inr ⟨rfl, rfl, by simp [refs, refsL]⟩) o.dst
      · exact hg.elim
    · exact hg.elim
  · rename_i op hcall hdefer
    refine plain .fail ?_
    unfold doOp
    split
    · rename_i f args at_ ho; exact (hcall _ _ _ ho).elim
    · rename_i f args at_ ho; exact (hdefer _ _ _ ho).elim
    · rfl

end
end Go.X
