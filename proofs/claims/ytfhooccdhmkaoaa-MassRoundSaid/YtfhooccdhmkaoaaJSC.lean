/- A function whose body is a scope of labels to which nothing jumps. Plain: no program in sight. -/
import Derived.Test.YtfhooccdhmkaoaaGB
import Derived.Scope
namespace Go.X

section
variable {P : Program} {D : Nat → Prop} {ρ0 ρ : Nat → Nat} {w0 w : World} {T : TT} {S : ST} {m : List Blk}

theorem Post.noGoto {Q : Ex → St → Prop} {e : Exit} {a : Act} {w : World} (h : Post D ρ0 w0 Q e a w) : Exit.noGoto (Post D ρ0 w0 Q) e a w := by
  obtain ⟨x, s, ρ', h1, h2, h3⟩ := h
  cases x with
  | norm => subst h3; exact ⟨.norm, s, ρ', h1, h2, rfl⟩
  | exit id => subst h3; exact ⟨.exit id, s, ρ', h1, h2, rfl⟩
  | ret => subst h3; exact ⟨.ret, s, ρ', h1, h2, rfl⟩
  | pan v => obtain ⟨rfl, h4⟩ := h3; exact ⟨.pan v, s, ρ', h1, h2, rfl, h4⟩

/-- a method's value is made and kept in a slot: of it nothing is known then -/
def mkO (o1 o2 : Oper) : Bool := match o1.op, o2.op with
  | .makeFunc (.func _) _ _, .assign _ => o1.guard.isNone && o2.guard.isNone
  | _, _ => false
def skipB (d1 d2 : Option Tmp) (s : St) : Out := .fin .norm ((s.put d1 .undef).put d2 .undef)
def execB (T : TT) (S : ST) (L : Nat → Option DM) (n : Nat) (c0 r1 : Code) (d1 d2 : Option Tmp) (c2 : Code) (s : St) : Out := (((exec T S L n c0 s).bind (exec T S L n r1)).bind (skipB d1 d2)).bind (exec T S L n c2)
theorem RS.blur {s : St} {a : Act} (h : RS D ρ0 w0 ρ s a w) (d : Option Tmp) (x : Value) : RS D ρ0 w0 ρ (s.put d .undef) (a.put d x) w := by
  have := h.put (m' := s.m) h.inv (Later.refl _ _) (v := .undef) (.inl rfl) d (x := x)
  exact this
theorem mk_wp {o1 o2 : Oper} (hm : mkO o1 o2 = true) {id : Nat} {Q : Ex → St → Prop} {s : St} {a : Act} (h : RS D ρ0 w0 ρ s a w) (hg : Good (skipB o1.dst o2.dst s) Q) : (Code.region id #[o1, o2] false).wp P (Post D ρ0 w0 Q) a w := by
  refine wp_region_list ?_
  obtain ⟨d1, op1, ty1, p1, af1, g1⟩ := o1
  obtain ⟨d2, op2, ty2, p2, af2, g2⟩ := o2
  unfold mkO at hm
  simp only at hm
  split at hm
  · rename_i _ _ f first cap x
    simp only [Bool.and_eq_true, Option.isNone_iff_eq_none] at hm
    obtain ⟨rfl, rfl⟩ := hm
    have h1 := h.blur d1 (.func (.func f) (first.map a.eval) (cap.map a.eval))
    unfold wpList
    rw [if_pos (by simp [Region.wanted])]
    refine .inl ?_
    unfold Oper.wp
    have e1 : (execOp a.eval { dst := d1, op := .makeFunc (.func f) first cap, type := ty1, pos := p1, after := af1, guard := none }).run P w = .ok (.value (.func (.func f) (first.map a.eval) (cap.map a.eval))) w := by
      simp only [execOp, Instr.makeFunc, Sem.run_bind, Sem.run_pure, Result.andThen_ok]
    rw [e1]
    show wpList P _ (Post D ρ0 w0 Q) _ _ w
    unfold wpList
    rw [if_pos (by simp [Region.wanted])]
    refine .inl ?_
    unfold Oper.wp
    have e2 : ∀ a' : Act, (execOp a'.eval { dst := d2, op := .assign x, type := ty2, pos := p2, after := af2, guard := none }).run P w = .ok (.value (a'.eval x)) w := by
      intro a'
      simp only [execOp, Sem.run_pure]
    rw [e2]
    exact ⟨.norm, _, ρ, h1.blur d2 _, hg, rfl⟩
  · simp at hm

theorem exec_scB {chk : Array Oper → Option DM → Bool} (hchk : DrawSound P chk) (hT : TOk P T) (hS : STok P S) {L : Nat → Option DM} {n : Nat} {c0 r1 c2 : Code} {id : Nat} {o1 o2 : Oper} (hm : mkO o1 o2 = true) {Q : Ex → St → Prop} {s : St} {a : Act} (hd : drawsOk chk L (.seq c0 (.seq r1 c2)) = true)
    (h : RS D ρ0 w0 ρ s a w) (hg : Good (execB T S L n c0 r1 o1.dst o2.dst c2 s) Q) : (Code.seq c0 (.scope (.seq r1 (.seq (.region id #[o1, o2] false) c2)))).wp P (Post D ρ0 w0 Q) a w := by
  simp only [drawsOk, Bool.and_eq_true] at hd
  unfold execB at hg
  have hg1 := hg.bind.bind.bind
  refine wp_seq (wp_mono (exec_ok hchk hT hS c0 hd.1 h hg1) fun e a' w' hp => ?_)
  obtain ⟨z, s', ρ', h1, h2, h3⟩ := hp
  cases z with
  | norm =>
    subst h3
    refine wp_scope_straight (wp_mono (Q := Post D ρ0 w0 Q) ?_ fun _ _ _ hp => hp.noGoto)
    refine wp_seq (wp_mono (exec_ok hchk hT hS r1 hd.2.1 h1 h2) fun e a' w' hp => ?_)
    obtain ⟨z, s', ρ', h1, h2, h3⟩ := hp
    cases z with
    | norm =>
      subst h3
      refine wp_seq (wp_mono (mk_wp hm h1 (Q := Ex.seq (fun s => Good (exec T S L n c2 s) Q) Q) h2) fun e a' w' hp => ?_)
      obtain ⟨z, s', ρ', h1, h2, h3⟩ := hp
      cases z with
      | norm => subst h3; exact exec_ok hchk hT hS c2 hd.2.2 h1 h2
      | exit id => subst h3; exact ⟨_, s', ρ', h1, h2, rfl⟩
      | ret => subst h3; exact ⟨_, s', ρ', h1, h2, rfl⟩
      | pan v => obtain ⟨rfl, h4⟩ := h3; exact ⟨_, s', ρ', h1, h2, rfl, h4⟩
    | exit id => subst h3; exact ⟨_, s', ρ', h1, h2, rfl⟩
    | ret => subst h3; exact ⟨_, s', ρ', h1, h2, rfl⟩
    | pan v => obtain ⟨rfl, h4⟩ := h3; exact ⟨_, s', ρ', h1, h2, rfl, h4⟩
  | exit id => subst h3; exact ⟨_, s', ρ', h1, h2, rfl⟩
  | ret => subst h3; exact ⟨_, s', ρ', h1, h2, rfl⟩
  | pan v => obtain ⟨rfl, h4⟩ := h3; exact ⟨_, s', ρ', h1, h2, rfl, h4⟩

theorem calls_okB {chk : Array Oper → Option DM → Bool} (hchk : DrawSound P chk) (hT : TOk P T) (hS : STok P S) {L : Nat → Option DM} {n : Nat} {f : FuncId} {fn : Func} {c0 r1 c2 : Code} {id : Nat} {o1 o2 : Oper} (hm : mkO o1 o2 = true) (hf : P.funcs[f]? = some fn) (hb : fn.body = some (.seq c0 (.scope (.seq r1 (.seq (.region id #[o1, o2] false) c2))))) (hd : drawsOk chk L (.seq c0 (.seq r1 c2)) = true)
    (h : Inv D ρ0 w0 ρ (fun b => m[b]?) w) {args : List AV} (ha : solidL args = true) (hr : ∀ c ∈ refsL args, (fun b => m[b]?) c ≠ none) {R R' : AV → List Blk → Prop}
    (hg : Good (execB T S L n c0 r1 o1.dst o2.dst c2 (initS args fn.ntmps m)) (Ends T fn.results.toList R R')) :
    Calls P f (args.map (conc ρ)).toArray w fun e w' => ∃ ρ' v m', Inv D ρ0 w0 ρ' (fun b => m'[b]?) w' ∧ (∀ c ∈ refs v, (fun b => m'[b]?) c ≠ none) ∧ okv v = true ∧
      ((e = .returned (conc ρ' v) ∧ R v m') ∨ (e = .panicked [{ v := conc ρ' v, recovered := false }] ∧ solid v = true ∧ R' v m')) := by
  refine calls_of_wp hf hb (wp_mono (exec_scB hchk hT hS hm hd (init_ok h ha hr fn.ntmps) hg) fun e a w' hp => ?_)
  obtain ⟨x, s, ρ', h1, h2, h3⟩ := hp
  cases x with
  | norm =>
    subst h3
    obtain ⟨hdf, v, hv, hR⟩ := h2
    obtain ⟨r1, r2, r3⟩ := resA_ok hT h1 hv
    exact ⟨by rw [h1.defers, hdf]; rfl, _, r1, ρ', v, s.m, h1.inv, r3, r2, .inl ⟨rfl, hR⟩⟩
  | ret =>
    subst h3
    obtain ⟨hdf, v, hv, hR⟩ := h2
    obtain ⟨r1, r2, r3⟩ := resA_ok hT h1 hv
    exact ⟨by rw [h1.defers, hdf]; rfl, _, r1, ρ', v, s.m, h1.inv, r3, r2, .inl ⟨rfl, hR⟩⟩
  | pan v =>
    obtain ⟨rfl, h4, h5⟩ := h3
    obtain ⟨hdf, hR⟩ := h2
    exact ⟨by rw [h1.defers, hdf]; rfl, ρ', v, s.m, h1.inv, h5, okv_of_solid h4, .inr ⟨rfl, h4, hR⟩⟩
  | exit id => exact h2.elim

theorem sum_readB {chk : Array Oper → Option DM → Bool} (hchk : DrawSound P chk) (hT : TOk P T) (hS : STok P S) {L : Nat → Option DM} {n : Nat} {f : FuncId} {fn : Func} {c0 r1 c2 : Code} {id : Nat} {o1 o2 : Oper} (hm : mkO o1 o2 = true) (hf : P.funcs[f]? = some fn) (hb : fn.body = some (.seq c0 (.scope (.seq r1 (.seq (.region id #[o1, o2] false) c2)))))
    (hn : (fn.name == "runtime.NumGoroutine") = false) (hd : drawsOk chk L (.seq c0 (.seq r1 c2)) = true) {g : Sum}
    (hg : ∀ args env nxt, g args env nxt ≠ .fail → ∃ args0 θ m0 u, Laid env args args0 θ m0 ∧ g args env nxt = .val u [] [] ∧ okv u = true ∧ refs u = [] ∧
      Good (execB T S L n c0 r1 o1.dst o2.dst c2 (initS args0 fn.ntmps m0)) (Ends T fn.results.toList (fun v m' => Eqv v u ∧ refs v = [] ∧ v ≠ .undef ∧ θ.length ≤ m'.length ∧ ∀ i, i < θ.length → m'[i]? = m0[i]?) fun _ _ => False)) : SumOk P f g := by
  intro args D ρ0 w0 ρ mem nxt w hnf hso hrf hfr hi
  obtain ⟨args0, θ, m0, u, hl, hgu, ho, hru, hgood⟩ := hg args _ nxt hnf
  refine .inr ⟨callFunc_enter hf hn (by rw [hb]; rfl) _, ?_⟩
  have henv : ∀ b blk, envOf mem (refsL args) b = some blk → mem b = some blk := by
    intro b blk h
    unfold envOf at h
    split at h
    · exact h
    · simp at h
  have hargs : (args.map (conc ρ)) = args0.map (conc fun i => ρ (θ.getD i 0)) := by
    rw [hl.args, ← concT_eq, concT_ren, concT_eq]
    rfl
  have hso0 : solidL args0 = true := by rw [hl.args, solidL_ren] at hso; exact hso
  rw [hargs]
  refine (calls_okB hchk hT hS hm hf hb hd (hl.start henv hi) hso0 (fun c hc => by
    show m0[c]? ≠ none
    rw [getD_get (l := m0) (by rw [hl.len]; exact hl.aref c hc)]; simp) hgood).mono fun e w' he => ?_
  obtain ⟨ρ', v, m', k1, k2, k3, ⟨rfl, hE, hrv, hvu, hlen, hsame⟩ | ⟨-, -, hF⟩⟩ := he
  · have ht : Told θ m0 m' nxt [] none v (.val (v.ren (glob θ nxt [])) [] []) := by
      refine ⟨rfl, by simp, by simp, hlen, fun i h _ => hsame i h, by simp, by simp [hrv], ?_, hvu⟩
      intro q hq b hb
      rcases hq with hq | hq
      · have e : m'.getD q default = m0.getD q default := by rw [List.getD_eq_getElem?_getD, hsame q hq, ← List.getD_eq_getElem?_getD]
        rw [e] at hb
        exact .inl (hl.bref q hq b hb)
      · simp at hq
    obtain ⟨ρ2, x, hx, h3, h4, h5, h6⟩ := told_post hl henv hi ht (fun j hj => by simp at hj) k3 k2 k1
    rw [hgu]
    refine ⟨ρ2, x, hx, ?_, by rintro rfl; simp [okv, solid] at ho, h5, h6⟩
    obtain ⟨h7, -, -⟩ := h3.get h4
    refine .inr ⟨?_, ho, by rw [hru]; simp⟩
    rw [h7, conc_ren, hE, conc_noref hru _ ρ2]
  · exact hF.elim

end
@[simp] theorem skipB_mk {d1 d2 : Option Tmp} {ts : List AV} {m : List Blk} {df : List (FuncId × List AV)} : skipB d1 d2 ⟨ts, m, df⟩ = .fin .norm ((St.put ⟨ts, m, df⟩ d1 .undef).put d2 .undef) := rfl
end Go.X
