/- Functions with one deferred closure that recovers. Plain: no program in sight. -/
import Derived.Test.YticlgpdmelhbhaaXN
import Derived.Recover
namespace Go.X

section
variable {P : Program} {D : Nat → Prop} {ρ0 ρ : Nat → Nat} {w0 w : World} {T : TT} {S : ST} {mem : Mem} {m : List Blk}

theorem Inv.then (h : Inv D ρ0 w0 ρ mem w) {ρ' : Nat → Nat} {m' : Mem} {w' : World} (k : Inv (fun b => mem b ≠ none) ρ w ρ' m' w') : Inv D ρ0 w0 ρ' m' w' ∧ Later ρ mem ρ' m' := by
  refine ⟨⟨k.row, k.inj, k.ref, fun b hb => ?_, fun b hb hD => ?_, k.os.trans h.os, k.tape.trans h.tape, k.output.trans h.output, Nat.le_trans h.size k.size, fun i hi hD => ?_⟩, fun b hb => k.ent b hb⟩
  · obtain ⟨e1, e2⟩ := h.ent b hb
    exact ⟨(k.ent b e2).1.trans e1, (k.ent b e2).2⟩
  · by_cases hm : mem b ≠ none
    · rw [(k.ent b hm).1]; exact h.new b hm hD
    · exact Nat.le_trans h.size (k.new b hb hm)
  · rw [k.old i (Nat.lt_of_lt_of_le hi h.size), h.old i hi hD]
    intro b hb e
    by_cases hDb : D b
    · exact hD b hDb (by rw [← (h.ent b hDb).1, e])
    · have := h.new b hb hDb
      omega

/-- an operation under callers that it leaves alone -/
theorem upS {o : Oper} {a : Act} {cs : List Frame} {next : Act → List Frame → World → Prop} {Q : Exit → Act → List Frame → World → Prop} {N : Value → List Frame → World → Prop} {M : World → Prop}
    (h : o.wp P a w (fun a' w' => next a' cs w') (fun e a' w' => Q e a' cs w')) :
    (match (execOp a.eval o).run P w with
        | .ok .recover w' => match recoverD cs with
          | some (v, cs') => N v cs' w'
          | none => M w'
        | r => o.upon P a (fun a' w' => next a' cs w') (fun e a' w' => Q e a' cs w') r) := by
  unfold Oper.wp at h
  split
  · rename_i w' hr
    rw [hr] at h
    exact h.elim
  · exact h

theorem opsS_ok (hT : TOk P T) (hS : STok P S) {ops : Array Oper} {cs : List Frame} {Q : Ex → St → Prop} {K : Exit → Act → List Frame → World → Prop} (hK : ∀ e a w, Post D ρ0 w0 Q e a w → K e a cs w) : ∀ (l : List Oper) (k : Nat) {s : St} {ρ : Nat → Nat} {a : Act} {w : World}, (∀ j, l[j]? = ops[k + j]?) → RS D ρ0 w0 ρ s a w → Good (opsA T S ops l s) Q →
    wpOpsS P ops K (List.range' k l.length) a cs w
  | [], k, s, ρ, a, w, _, h, hg => hK _ _ _ ⟨.norm, s, ρ, h, hg, rfl⟩
  | o :: rest, k, s, ρ, a, w, hl, h, hg => by
    have h0 : ops[k]? = some o := by simpa using (hl 0).symm
    have hl' : ∀ j, rest[j]? = ops[k + 1 + j]? := fun j => by have := hl (j + 1); simpa [Nat.add_assoc, Nat.add_comm 1 j] using this
    have run : Good ((doOp T S o s).bind (opsA T S ops rest)) Q → o.wp P a w (fun a' w' => wpOpsS P ops K (List.range' (k + 1) rest.length) a' cs w') (fun e a w => K e a cs w) := by
      intro hg
      refine doOp_ok hT hS h hg.bind (fun s' ρ' a' w' h' hq _ _ => opsS_ok hT hS hK rest (k + 1) hl' h' hq) (fun e a' w' hp => ?_)
      obtain ⟨x, s', ρ', h1, h2, h3⟩ := hp
      cases x with
      | norm => exact h2.elim
      | exit id => exact hK _ _ _ ⟨_, s', ρ', h1, h2, h3⟩
      | ret => exact hK _ _ _ ⟨_, s', ρ', h1, h2, h3⟩
      | pan v => exact hK _ _ _ ⟨_, s', ρ', h1, h2, h3⟩
    unfold opsA at hg
    rw [List.length_cons, List.range'_succ]
    simp only [wpOpsS, h0]
    split at hg
    · rename_i hgd
      rw [if_pos (by simp [Region.wanted, hgd])]
      exact upS (next := fun a' cs w' => wpOpsS P ops K (List.range' (k + 1) rest.length) a' cs w') (Q := K) (run hg)
    · rename_i j want hgd
      split at hg
      · rename_i hd
        have : yielded ops a.tmps j = none := by unfold yielded; rw [hd]; rfl
        rw [if_neg (by simp [Region.wanted, hgd, this])]
        exact opsS_ok hT hS hK rest (k + 1) hl' (h.skip o.dst) hg
      · rename_i d hd
        obtain ⟨y1, y2⟩ := yielded_ok h hd
        split at hg
        · rename_i b hb
          have hy := y1 b hb
          split at hg
          · rename_i hbw
            rw [if_pos (by simp [Region.wanted, hgd, hy, hbw])]
            exact upS (next := fun a' cs w' => wpOpsS P ops K (List.range' (k + 1) rest.length) a' cs w') (Q := K) (run hg)
          · rename_i hbw
            rw [if_neg (by simp [Region.wanted, hgd, hy, hbw])]
            exact opsS_ok hT hS hK rest (k + 1) hl' (h.skip o.dst) hg
        · exact hg.elim
        · rename_i hnb hnu
          have hy := y2 hnu hnb
          rw [if_neg (by simp [Region.wanted, hgd, hy])]
          exact opsS_ok hT hS hK rest (k + 1) hl' (h.skip o.dst) hg

/-- the closure, from what recover gave it on -/
def clo (T : TT) (S : ST) (L : Nat → Option DM) (n : Nat) (ops : Array Oper) (tl : List Oper) (rest : Code) (d : Option Tmp) (nt : Nat) (cap : List AV) (m : List Blk) (v : AV) : Out :=
  (opsA T S ops tl ((initS cap nt m).put d v)).bind (exec T S L n rest)

theorem rec_ok {chk : Array Oper → Option DM → Bool} (hchk : DrawSound P chk) (hT : TOk P T) (hS : STok P S) {L : Nat → Option DM} {n : Nat} {f : FuncId} {fn : Func} {id : Nat} {ops : Array Oper} {rest : Code} {d : Option Tmp} {ts ty pos af} {tl : List Oper}
    (hf : P.funcs[f]? = some fn) (hb : fn.body = some (.seq (.region id ops false) rest)) (ho : ops.toList = ⟨d, .call ⟨.builtin .recover, #[], ts⟩, ty, pos, af, none⟩ :: tl) (hd : drawsOk chk L rest = true)
    (h : Inv D ρ0 w0 ρ (fun b => m[b]?) w) {cap : List AV} (hc : solidL cap = true) (hr : ∀ c ∈ refsL cap, (fun b => m[b]? : Mem) c ≠ none) {v : AV} {x : Value} (hv : SR ρ (fun b => m[b]?) v x) {u u' : FrameMode}
    (hrec : ∀ (c : Frame) (cs : List Frame), c.mode = u → (u' = u ∧ recoverD (c :: cs) = none ∧ x = .nilIface) ∨ recoverD (c :: cs) = some (x, { c with mode := u' } :: cs))
    {Q : List Blk → Prop} (hg : Good (clo T S L n ops tl rest d fn.ntmps cap m v) fun e s => (e = .norm ∨ e = .ret) ∧ s.df = [] ∧ (resA T s fn.results.toList).isSome = true ∧ Q s.m) :
    CallsD P f (cap.map (conc ρ)).toArray u w fun e u2 w' => u2 = u' ∧ ∃ y ρ' m', e = .returned y ∧ Inv D ρ0 w0 ρ' (fun b => m'[b]?) w' ∧ Q m' := by
  refine callsD_of_wpS hf hb fun c cs hm => wpS_seq (wpS_region ?_)
  have hsz : ops.size = tl.length + 1 := by rw [← Array.length_toList, ho]; rfl
  have h0 : ops[0]? = some ⟨d, .call ⟨.builtin .recover, #[], ts⟩, ty, pos, af, none⟩ := by rw [← Array.getElem?_toList, ho]; rfl
  have hl : ∀ j, tl[j]? = ops[0 + 1 + j]? := fun j => by
    rw [← Array.getElem?_toList, ho, show 0 + 1 + j = j + 1 from by omega]; rfl
  rw [hsz, List.range_eq_range', List.range'_succ]
  have hini := init_ok h hc hr fn.ntmps
  have main : ∀ a : Act, RS D ρ0 w0 ρ (initS cap fn.ntmps m) a w → wpOpsS P ops (Exit.thenS (rest.wpS P (bodyPostS P fn c cs fun e u2 w' => u2 = u' ∧ ∃ y ρ' m', e = .returned y ∧ Inv D ρ0 w0 ρ' (fun b => m'[b]?) w' ∧ Q m')) (bodyPostS P fn c cs fun e u2 w' => u2 = u' ∧ ∃ y ρ' m', e = .returned y ∧ Inv D ρ0 w0 ρ' (fun b => m'[b]?) w' ∧ Q m'))
      (List.range' (0 + 1) tl.length) (a.put d x) ({ c with mode := u' } :: cs) w := by
    intro a ha
    have hput := ha.put ha.inv (Later.refl _ _) hv d
    have fin : ∀ e a w, Post D ρ0 w0 (fun e s => (e = .norm ∨ e = .ret) ∧ s.df = [] ∧ (resA T s fn.results.toList).isSome = true ∧ Q s.m) e a w →
        bodyPostS P fn c cs (fun e u2 w' => u2 = u' ∧ ∃ y ρ' m', e = .returned y ∧ Inv D ρ0 w0 ρ' (fun b => m'[b]?) w' ∧ Q m') e a ({ c with mode := u' } :: cs) w := by
      rintro e a w ⟨z, s, ρ', h1, ⟨h2, h3, h4, h5⟩, h6⟩
      obtain ⟨r, hr⟩ := Option.isSome_iff_exists.1 h4
      obtain ⟨r1, -, -⟩ := resA_ok hT h1 hr
      have hdf : a.defers = [] := by rw [h1.defers, h3]; rfl
      rcases h2 with rfl | rfl
      · subst h6
        exact ⟨hdf, u', rfl, _, r1, rfl, _, ρ', s.m, rfl, h1.inv, h5⟩
      · subst h6
        exact ⟨hdf, u', rfl, _, r1, rfl, _, ρ', s.m, rfl, h1.inv, h5⟩
    refine opsS_ok (cs := { c with mode := u' } :: cs) hT hS (Q := Ex.seq (fun s => Good (exec T S L n rest s) fun e s => (e = .norm ∨ e = .ret) ∧ s.df = [] ∧ (resA T s fn.results.toList).isSome = true ∧ Q s.m) fun e s => (e = .norm ∨ e = .ret) ∧ s.df = [] ∧ (resA T s fn.results.toList).isSome = true ∧ Q s.m) ?_ tl (0 + 1) hl hput (Good.bind hg)
    rintro e a w ⟨z, s, ρ', h1, h2, h3⟩
    cases z with
    | norm =>
      subst h3
      exact wpS_of_wp (wp_mono (exec_ok hchk hT hS rest hd h1 h2) fun e a' w' hp => fin e a' w' hp)
    | exit i => exact (h2.1.elim (by simp) (by simp))
    | ret => subst h3; exact fin _ _ _ ⟨.ret, s, ρ', h1, h2, rfl⟩
    | pan v => exact (h2.1.elim (by simp) (by simp))
  have main := main _ hini
  simp only [wpOpsS, h0]
  rw [if_pos (by simp [Region.wanted])]
  have hx : ∀ a : Act, (execOp a.eval ⟨d, .call ⟨.builtin .recover, #[], ts⟩, ty, pos, af, none⟩).run P w = .ok .recover w := fun a => by simp [execOp, resolve, invoke, builtin]
  rw [hx]
  rcases hrec c cs hm with ⟨rfl, h1, rfl⟩ | h1
  · rw [h1]
    have : ({ c with mode := u' } : Frame) = c := by subst hm; rfl
    rw [this] at main
    exact main
  · rw [h1]
    exact main

/-- a deferred closure's start: recover -/
def recOper (d : Option Tmp) (ts : Array TypeId) (ty : TypeId) (pos : String) (af : Array Edge) : Oper := ⟨d, .call ⟨.builtin .recover, #[], ts⟩, ty, pos, af, none⟩

/-- how a body with at most one deferred closure ends: 'G': the closure, from what recover gave it on -/
def EndsD (T : TT) (rs rsD : List ResultVar) (fD : FuncId) (G : List AV → List Blk → AV → Out) (R : AV → Prop) (x : Ex) (s : St) : Prop :=
  match s.df with
  | [] => match x with
    | .exit _ => False
    | .pan _ => False
    | _ => ∃ r, resA T s rs = some r ∧ R r
  | [(f, cap)] => f = fD ∧ match x with
    | .exit _ => False
    | .pan v => Good (G cap s.m v) fun e s' => (e = .norm ∨ e = .ret) ∧ s'.df = [] ∧ (resA T s' rsD).isSome = true ∧ ∃ r, resA T ⟨s.ts, s'.m, []⟩ rs = some r ∧ R r
    | _ => Good (G cap s.m .nilif) fun e s' => (e = .norm ∨ e = .ret) ∧ s'.df = [] ∧ (resA T s' rsD).isSome = true ∧ ∃ r, resA T ⟨s.ts, s'.m, []⟩ rs = some r ∧ R r
  | _ => False

theorem sum_df {chk : Array Oper → Option DM → Bool} (hchk : DrawSound P chk) (hT : TOk P T) (hS : STok P S) {L : Nat → Option DM} {n : Nat} {f : FuncId} {fn : Func} {c : Code} (hf : P.funcs[f]? = some fn) (hb : fn.body = some c)
    (hn : (fn.name == "runtime.NumGoroutine") = false) (hd : drawsOk chk L c = true)
    {fD : FuncId} {fnD : Func} {id : Nat} {ops : Array Oper} {rest : Code} {d : Option Tmp} {ts ty pos af} {tl : List Oper}
    (hfD : P.funcs[fD]? = some fnD) (hnD : (fnD.name == "runtime.NumGoroutine") = false) (hbD : fnD.body = some (.seq (.region id ops false) rest)) (hoD : ops.toList = recOper d ts ty pos af :: tl) (hdD : drawsOk chk (fun _ => none) rest = true) {g : List AV → PR}
    (hv : ∀ args v, g args = .val v → refsL args = [] ∧ okv v = true ∧ refs v = [] ∧ Good (exec T S L n c (initS args fn.ntmps [])) (EndsD T fn.results.toList fnD.results.toList fD (fun cap m v => clo T (fun _ => none) (fun _ => none) 0 ops tl rest d fnD.ntmps cap m v) fun u => Eqv u v))
    (hp : ∀ args v, g args ≠ .pan v) : SumOk P f (pureS g) := by
  intro args D ρ0 w0 ρ mem nxt w hnf hso hrf hfr hi
  refine .inr ⟨callFunc_enter hf hn (by rw [hb]; rfl) _, ?_⟩
  unfold pureS at hnf ⊢
  cases hg : g args with
  | fail => rw [hg] at hnf; exact absurd rfl hnf
  | pan v => exact absurd hg (hp args v)
  | val v =>
    obtain ⟨hra, g1, g2, g3⟩ := hv args v hg
    have start : Inv (fun b => (fun _ => none : Mem) b ≠ none) ρ w ρ (fun b => ([] : List Blk)[b]?) w := by
      have := Inv.start (w := w) (ρ := ρ) (mem := fun b => ([] : List Blk)[b]?) (by simp) (by simp) (by simp)
      simpa using this
    have hnone : STok P (fun _ => none) := fun _ _ h => by simp at h
    refine calls_of_wp_defers hf hb (wp_mono (exec_ok hchk hT hS c hd (init_ok start hso (by rw [hra]; simp) fn.ntmps) g3) fun e a w1 hq => ?_)
    obtain ⟨x, s, ρ1, h1, h2, h3⟩ := hq
    -- the closure, whatever recover gives it
    have last : ∀ (u u' : FrameMode) (rv : AV) (y : Value) (cap : List AV), s.df = [(fD, cap)] → u ≠ .run → settle u' = .returning → SR ρ1 s.mem rv y → (∀ (c : Frame) (cs : List Frame), c.mode = u → (u' = u ∧ recoverD (c :: cs) = none ∧ y = .nilIface) ∨ recoverD (c :: cs) = some (y, { c with mode := u' } :: cs)) →
        (Good (clo T (fun _ => none) (fun _ => none) 0 ops tl rest d fnD.ntmps cap s.m rv) fun e s' => (e = .norm ∨ e = .ret) ∧ s'.df = [] ∧ (resA T s' fnD.results.toList).isSome = true ∧ ∃ r, resA T ⟨s.ts, s'.m, []⟩ fn.results.toList = some r ∧ Eqv r v) →
        Leaves P fn a.tmps (CRpost D ρ0 w0 ρ mem nxt (.val v [] [])) a.defers u w1 := by
      intro u u' rv y cap hdf hu hset hsr hrec hgood
      have hdr := h1.dref (fD, cap) (by rw [hdf]; simp)
      rw [h1.defers, hdf]
      simp only [List.map_cons, List.map_nil]
      have hin := Inv.start (w := w1) (ρ := ρ1) (mem := s.mem) h1.inv.row h1.inv.inj h1.inv.ref
      have hcall := rec_ok (id := id) (m := s.m) hchk hT hnone hfD hbD hoD hdD hin hdr.1 hdr.2 hsr hrec (Q := fun m' => ∃ r, resA T ⟨s.ts, m', []⟩ fn.results.toList = some r ∧ Eqv r v) hgood
      refine leaves_cons hu (f := fD) (args := (cap.map (conc ρ1)).toArray) ?_ (hcall.mono fun e u2 w2 hq => ?_)
      · have := callFunc_enter (P := P) (w := w1) hfD hnD (by rw [hbD]; rfl) (cap.map (conc ρ1)).toArray
        simpa [invoke, concT_eq] using this
      · obtain ⟨rfl, z, ρ2, m', rfl, hi2, r, hr, hE⟩ := hq
        obtain ⟨hi3, hl⟩ := h1.inv.then hi2
        have hrs : RS (fun b => (fun _ => none : Mem) b ≠ none) ρ w ρ2 ⟨s.ts, m', []⟩ { a with defers := [] } w2 := ⟨hi3, fun t => (h1.tmps t).later hl, h1.size, rfl, by simp⟩
        obtain ⟨r1, r2, r3⟩ := resA_ok hT hrs hr
        show Leaves P fn a.tmps (CRpost D ρ0 w0 ρ mem nxt (.val v [] [])) [] (settle u2) w2
        rw [hset]
        refine ⟨_, r1, ρ, conc ρ v, ?_, .inr ⟨rfl, g1, by rw [g2]; simp⟩, ?_, ?_⟩
        · rw [hE ρ2, conc_noref g2 ρ2 ρ]
        · rintro rfl; simp [okv, solid] at g1
        · rw [memNew_nil, memUp_nil]; exact ⟨hi.from hi3, Later.refl _ _⟩
    have nil : SR ρ1 s.mem .nilif .nilIface := .inr ⟨rfl, rfl, by simp [refs]⟩
    unfold EndsD at h2
    split at h2
    · rename_i hdf
      have fin : (∃ r, resA T s fn.results.toList = some r ∧ Eqv r v) → Leaves P fn a.tmps (CRpost D ρ0 w0 ρ mem nxt (.val v [] [])) a.defers .returning w1 := by
        rintro ⟨r, hr, hE⟩
        obtain ⟨r1, r2, r3⟩ := resA_ok hT h1 hr
        rw [h1.defers, hdf]
        refine ⟨_, r1, ρ, conc ρ v, ?_, .inr ⟨rfl, g1, by rw [g2]; simp⟩, ?_, ?_⟩
        · rw [hE ρ1, conc_noref g2 ρ1 ρ]
        · rintro rfl; simp [okv, solid] at g1
        · rw [memNew_nil, memUp_nil]; exact ⟨hi.from h1.inv, Later.refl _ _⟩
      cases x with
      | norm => subst h3; exact fin h2
      | ret => subst h3; exact fin h2
      | pan pv => exact h2.elim
      | exit i => exact h2.elim
    · rename_i fD' cap e1
      obtain ⟨rfl, e2⟩ := h2
      cases x with
      | norm =>
        subst h3
        exact last .returning .returning .nilif .nilIface cap e1 (by simp) rfl nil (fun c cs hm => .inl ⟨rfl, by simp [recoverD, hm], rfl⟩) e2
      | ret =>
        subst h3
        exact last .returning .returning .nilif .nilIface cap e1 (by simp) rfl nil (fun c cs hm => .inl ⟨rfl, by simp [recoverD, hm], rfl⟩) e2
      | pan pv =>
        obtain ⟨rfl, h4, h5⟩ := h3
        exact last (.panicking [{ v := conc ρ1 pv, recovered := false }]) (.panicking [{ v := conc ρ1 pv, recovered := true }]) pv (conc ρ1 pv) cap e1 (by simp) rfl (.inr ⟨rfl, okv_of_solid h4, h5⟩) (fun c cs hm => .inr (by simp [recoverD, hm])) e2
      | exit i => exact e2.elim
    · exact h2.elim

end
end Go.X
