/- Range over functions: iterators, and those that range over them. -/
import Derived.Test.YtpojeehijepmhaaGreatGB
import Derived.TacticsIn
import Derived.RangeFuncSeq
import Derived.RangeFuncLeaves
import Derived.RangeFuncRecord

section
namespace Go.X
def FW (ro : Option Nat) : Fence := { Fence.wide with round := ro }
theorem FW_none : FW none = Fence.wide := rfl
theorem FW_some (l : Nat) : FW (some l) = Fence.wide.inRound l := rfl
def more (base : List Deferred) (a : Act) : Act := { a with defers := a.defers ++ base }
theorem more_eval (base : List Deferred) (a : Act) : (more base a).eval = a.eval := by funext x; cases x <;> rfl
theorem more_put (base : List Deferred) (a : Act) (d : Option Tmp) (v : Value) : (more base a).put d v = more base (a.put d v) := by cases d <;> rfl
def Mr (base : List Deferred) (N : Act → World → Prop) (a : Act) (w : World) : Prop := ∃ a', a = more base a' ∧ N a' w
def MrQ (base : List Deferred) (Q : Exit → Act → World → Prop) (e : Exit) (a : Act) (w : World) : Prop := ∃ a', a = more base a' ∧ Q e a' w
section
variable {P : Program} {D : Nat → Prop} {ρ0 ρ : Nat → Nat} {w0 w : World} {T : TT} {S : ST} {base : List Deferred} {ro : Option Nat} {n : Nat}
theorem callsIn_FW {f : FuncId} {args : Array Value} {R : Ending → World → Prop} (h : Calls P f args w R) : CallsIn (FW ro) n P f args w R := (callsIn_wide (n := n)).2 h
theorem oper_in {o : Oper} {a : Act} {next : Act → World → Prop} {Q : Exit → Act → World → Prop} (hnd : ∀ c, o.op ≠ .defer c) (h : o.wp P a w next Q) : o.wpIn (FW ro) n P (more base a) w (Mr base next) (MrQ base Q) := by
  refine ⟨fun _ _ => trivial, ?_⟩
  rw [Oper.semAt_eq _ _ _ hnd, more_eval]
  unfold Oper.wp Oper.upon at h
  unfold Oper.uponIn
  have hd : ¬ ((FW ro).depth.isSome = true) := by simp [FW, Fence.wide]
  split at h
  · rename_i v w' hr; rw [hr]; exact ⟨_, more_put _ _ _ _, h⟩
  · rename_i w' hr; rw [hr]; exact ⟨_, more_put _ _ _ _, h⟩
  · rename_i d w' hr; rw [hr]; exact ⟨_, more_put base { a with defers := d :: a.defers } _ _, h⟩
  · rename_i f args w' hr
    rw [hr]
    refine ⟨fun k => absurd k hd, (callsIn_FW h).mono fun e w'' he => ?_⟩
    cases e with
    | returned v => exact ⟨_, more_put _ _ _ _, he⟩
    | panicked c => exact ⟨_, rfl, he⟩
    | outgrown => obtain ⟨a', w3, h3⟩ := he; exact ⟨more base a', w3, _, rfl, h3⟩
  · rename_i row args w' hr
    rw [hr]
    refine ⟨fun k => absurd k hd, fun c cs _ => ?_⟩
    obtain ⟨v, w'', h1, h2⟩ := h c cs
    exact ⟨v, w'', ⟨_, more_put _ _ _ _, h1⟩, stepsIn_wide.2 h2⟩
  · rename_i v w' hr; rw [hr]; exact ⟨_, rfl, h⟩
  · exact h.elim
def noDefer (o : Oper) : Bool := match o.op with | .defer _ => false | _ => true
theorem noDefer_ne {o : Oper} (h : noDefer o = true) (c : Call) : o.op ≠ .defer c := by
  intro e; simp [noDefer, e] at h
theorem opsA_okIn (hT : TOk P T) (hS : STok P S) {ops : Array Oper} {Q : Ex → St → Prop} : ∀ (l : List Oper) {s : St} {ρ : Nat → Nat} {a : Act} {w : World}, l.all noDefer = true → RS D ρ0 w0 ρ s a w → Good (opsA T S ops l s) Q →
    wpListIn (FW ro) n P ops (MrQ base (Post D ρ0 w0 Q)) l (more base a) w
  | [], s, ρ, a, w, _, h, hg => ⟨a, rfl, .norm, s, ρ, h, hg, rfl⟩
  | o :: rest, s, ρ, a, w, hnd, h, hg => by
    simp only [List.all_cons, Bool.and_eq_true] at hnd
    have run : Good ((doOp T S o s).bind (opsA T S ops rest)) Q → o.wpIn (FW ro) n P (more base a) w (wpListIn (FW ro) n P ops (MrQ base (Post D ρ0 w0 Q)) rest) (MrQ base (Post D ρ0 w0 Q)) := by
      intro hg
      have h1 : o.wp P a w (fun a' w' => wpListIn (FW ro) n P ops (MrQ base (Post D ρ0 w0 Q)) rest (more base a') w') (Post D ρ0 w0 Q) := by
        refine doOp_ok hT hS h hg.bind (fun s' ρ' a' w' h' hq _ _ => opsA_okIn hT hS rest hnd.2 h' hq) (fun e a' w' hp => ?_)
        obtain ⟨x, s', ρ', h1, h2, h3⟩ := hp
        cases x with
        | norm => exact h2.elim
        | exit id => exact ⟨_, s', ρ', h1, h2, h3⟩
        | ret => exact ⟨_, s', ρ', h1, h2, h3⟩
        | pan v => exact ⟨_, s', ρ', h1, h2, h3⟩
      have h2 := oper_in (ro := ro) (n := n) (base := base) (noDefer_ne hnd.1) h1
      refine ⟨h2.1, ?_⟩
      have key : ∀ r, o.uponIn (FW ro) n P (more base a) (Mr base fun a' w' => wpListIn (FW ro) n P ops (MrQ base (Post D ρ0 w0 Q)) rest (more base a') w') (MrQ base (Post D ρ0 w0 Q)) r →
          o.uponIn (FW ro) n P (more base a) (wpListIn (FW ro) n P ops (MrQ base (Post D ρ0 w0 Q)) rest) (MrQ base (Post D ρ0 w0 Q)) r := by
        intro r hr
        have un : ∀ a' w', Mr base (fun a' w' => wpListIn (FW ro) n P ops (MrQ base (Post D ρ0 w0 Q)) rest (more base a') w') a' w' → wpListIn (FW ro) n P ops (MrQ base (Post D ρ0 w0 Q)) rest a' w' := by
          rintro a' w' ⟨a'', rfl, h⟩; exact h
        unfold Oper.uponIn at hr ⊢
        split at hr
        · exact un _ _ hr
        · exact un _ _ hr
        · exact un _ _ hr
        · refine ⟨hr.1, hr.2.mono fun e w'' he => ?_⟩
          cases e with
          | returned v => exact un _ _ he
          | _ => exact he
        · exact ⟨hr.1, hr.2.mono fun v w'' he => un _ _ he⟩
        · refine ⟨hr.1, hr.2.mono fun e w'' he => ?_⟩
          cases e with
          | returned v => exact un _ _ he
          | _ => exact he
        · exact hr
        · exact hr.elim
      exact key _ h2.2
    have skip : wpListIn (FW ro) n P ops (MrQ base (Post D ρ0 w0 Q)) rest (more base (a.put o.dst Go.undef)) w → (∀ f, o.about P w (more base a).eval = some f → (FW ro).fn f) ∧ wpListIn (FW ro) n P ops (MrQ base (Post D ρ0 w0 Q)) rest ((more base a).put o.dst Go.undef) w :=
      fun hh => ⟨fun _ _ => trivial, by rw [more_put]; exact hh⟩
    unfold opsA at hg
    unfold wpListIn
    have hty : (more base a).tmps = a.tmps := rfl
    rw [hty]
    split at hg
    · rename_i hgd
      rw [if_pos (by simp [Region.wanted, hgd])]
      exact run hg
    · rename_i j want hgd
      split at hg
      · rename_i hd
        have : yielded ops a.tmps j = none := by unfold yielded; rw [hd]; rfl
        rw [if_neg (by simp [Region.wanted, hgd, this])]
        exact skip (opsA_okIn hT hS rest hnd.2 (h.skip o.dst) hg)
      · rename_i d hd
        obtain ⟨y1, y2⟩ := yielded_ok h hd
        split at hg
        · rename_i b hb
          have hy := y1 b hb
          split at hg
          · rename_i hbw
            rw [if_pos (by simp [Region.wanted, hgd, hy, hbw])]
            exact run hg
          · rename_i hbw
            rw [if_neg (by simp [Region.wanted, hgd, hy, hbw])]
            exact skip (opsA_okIn hT hS rest hnd.2 (h.skip o.dst) hg)
        · exact hg.elim
        · rename_i hnb hnu
          have hy := y2 hnu hnb
          rw [if_neg (by simp [Region.wanted, hgd, hy])]
          exact skip (opsA_okIn hT hS rest hnd.2 (h.skip o.dst) hg)
def flatC : Code → Bool
  | .skip | .label _ | .exit _ | .ret => true
  | .region _ ops false => ops.toList.all noDefer
  | .seq a b => flatC a && flatC b
  | .cond _ a b => flatC a && flatC b
  | .block _ c => flatC c
  | _ => false
theorem exec_okIn (hT : TOk P T) (hS : STok P S) {L : Nat → Option DM} {k : Nat} : ∀ (c : Code) {Q : Ex → St → Prop} {s : St} {ρ : Nat → Nat} {a : Act} {w : World}, flatC c = true →
    RS D ρ0 w0 ρ s a w → Good (exec T S L k c s) Q → c.wpIn (FW ro) n P (MrQ base (Post D ρ0 w0 Q)) (more base a) w
  | .skip, Q, s, ρ, a, w, _, h, hg => wpIn_skip ⟨a, rfl, .norm, s, ρ, h, hg, rfl⟩
  | .label _, Q, s, ρ, a, w, _, h, hg => wpIn_label ⟨a, rfl, .norm, s, ρ, h, hg, rfl⟩
  | .region id ops false, Q, s, ρ, a, w, hd, h, hg => by
    refine wpIn_region ?_
    rw [List.range_eq_range', ← Array.length_toList, wpOpsIn_eq_wpListIn ops.toList 0 (by simp)]
    exact opsA_okIn hT hS _ (by simpa [flatC] using hd) h hg
  | .seq x y, Q, s, ρ, a, w, hd, h, hg => by
    simp only [flatC, Bool.and_eq_true] at hd
    refine wpIn_seq (wpIn_mono (exec_okIn hT hS x hd.1 h hg.bind) fun e a' w' hp => ?_)
    obtain ⟨a1, rfl, z, s', ρ', h1, h2, h3⟩ := hp
    cases z with
    | norm => subst h3; exact exec_okIn hT hS y hd.2 h1 h2
    | exit id => subst h3; exact ⟨_, rfl, _, s', ρ', h1, h2, rfl⟩
    | ret => subst h3; exact ⟨_, rfl, _, s', ρ', h1, h2, rfl⟩
    | pan v => obtain ⟨rfl, h3⟩ := h3; exact ⟨_, rfl, _, s', ρ', h1, h2, rfl, h3⟩
  | .cond c x y, Q, s, ρ, a, w, hd, h, hg => by
    simp only [flatC, Bool.and_eq_true] at hd
    simp only [exec] at hg
    split at hg
    · rename_i b hb
      obtain ⟨e, -, -⟩ := (h.ev c).get (by rw [hb]; simp)
      rw [hb] at e
      refine wpIn_cond (t := b) (by rw [more_eval]; exact e) ?_
      split at hg
      · rename_i hbt; rw [if_pos hbt]; exact exec_okIn hT hS x hd.1 h hg
      · rename_i hbt; rw [if_neg hbt]; exact exec_okIn hT hS y hd.2 h hg
    · exact hg.elim
  | .block id c, Q, s, ρ, a, w, hd, h, hg => by
    simp only [flatC] at hd
    refine wpIn_block (wpIn_mono (exec_okIn hT hS c hd h (Good.unblock hg)) fun e a' w' hp => ?_)
    obtain ⟨a1, rfl, z, s', ρ', h1, h2, h3⟩ := hp
    cases z with
    | norm => subst h3; exact ⟨_, rfl, _, s', ρ', h1, h2, rfl⟩
    | exit i =>
      subst h3
      show if i = id then _ else _
      by_cases hi : i = id
      · rw [if_pos hi]; simp only [hi, if_true] at h2; exact ⟨_, rfl, _, s', ρ', h1, h2, rfl⟩
      · rw [if_neg hi]; simp only [hi, if_false] at h2; exact ⟨_, rfl, _, s', ρ', h1, h2, rfl⟩
    | ret => subst h3; exact ⟨_, rfl, _, s', ρ', h1, h2, rfl⟩
    | pan v => obtain ⟨rfl, h3⟩ := h3; exact ⟨_, rfl, _, s', ρ', h1, h2, rfl, h3⟩
  | .exit id, Q, s, ρ, a, w, _, h, hg => wpIn_exit ⟨a, rfl, .exit id, s, ρ, h, hg, rfl⟩
  | .ret, Q, s, ρ, a, w, _, h, hg => wpIn_ret ⟨a, rfl, .ret, s, ρ, h, hg, rfl⟩
  | .region id ops true, Q, s, ρ, a, w, hd, h, hg => by simp [flatC] at hd
  | .loop c, Q, s, ρ, a, w, hd, h, hg => by simp [flatC] at hd
  | .rangeFunc .., Q, s, ρ, a, w, _, h, hg => hg.elim
  | .scope _, Q, s, ρ, a, w, hd, h, hg => by simp [flatC] at hd
  | .goto _, Q, s, ρ, a, w, _, h, hg => hg.elim
  | .refuse _, Q, s, ρ, a, w, _, h, hg => hg.elim
end
end Go.X
end

section
namespace Go.X
abbrev It := List AV → Mem → Option (List (List AV))
def IterOk (P : Program) (f : FuncId) (it : It) : Prop :=
  ∀ (cap : List AV) (env : Mem) (ys : List (List AV)), it cap env = some ys → (∀ y ∈ ys, solidL y = true ∧ refsL y = []) ∧
    ∀ (ρ : Nat → Nat) (l : Nat) (J : Nat → World → Prop) (Jx : World → Prop) (w : World), solidL cap = true → (∀ c ∈ refsL cap, env c ≠ none) →
      (∀ j W, J j W → Inv (fun b => env b ≠ none) ρ W ρ env W) → (∀ W, Jx W → Inv (fun b => env b ≠ none) ρ W ρ env W) →
      (∀ j W W', J j W → W.grownBy W' none → J j W') → (∀ W W', Jx W → W.grownBy W' none → Jx W') →
      (∀ j y W, ys[j]? = some y → J j W → YieldAt Fence.wide 0 P l (y.map (conc id)).toArray W fun e W' => (e = .returned (.bool true) ∧ J (j + 1) W') ∨ (e = .returned (.bool false) ∧ Jx W')) →
      J 0 w →
      (∀ args w, (callFunc f args).run P w = .ok (.enter f args) w) ∧
      CallsIn Fence.wide 0 P f (#[.func (.yield l) #[] #[]] ++ (cap.map (conc ρ)).toArray) w fun e W' => (∃ v, e = .returned v) ∧ (J ys.length W' ∨ Jx W')
def setps : List Tmp → List AV → List AV → List AV
  | t :: ps, v :: vs, ts => setps ps vs (ts.set t v)
  | _, _, ts => ts
def RoundK2 (f : List Blk → Prop) (caps : List Nat) (m0 : List Blk) (Q : Ex → List Blk → Prop) : Ex → St → Prop
  | .norm, s => s.df = [] ∧ (∀ b ∈ caps, s.m[b]? = m0[b]?) ∧ f s.m
  | .ret, s => s.df = [] ∧ (∀ b ∈ caps, s.m[b]? = m0[b]?) ∧ Q .ret s.m
  | _, _ => False
def RoundK1 (T : TT) (S : ST) (L : Nat → Option DM) (n : Nat) (bd : Code) (K : Ex → St → Prop) (x : Ex) (s : St) : Prop := x = .norm ∧ s.df = [] ∧ Good (exec T S L n bd s) K
def RoundsG (T : TT) (S : ST) (L : Nat → Option DM) (n : Nat) (ps : List Tmp) (asg bd : Code) (ts : List AV) (caps : List Nat) (m0 : List Blk) (Q : Ex → List Blk → Prop) : List (List AV) → List Blk → Prop
  | [], m => Q .norm m
  | y :: ys, m => Good (exec T S L n asg ⟨setps ps y ts, m, []⟩) (RoundK1 T S L n bd (RoundK2 (RoundsG T S L n ps asg bd ts caps m0 Q ys) caps m0 Q))
def RangeG (T : TT) (S : ST) (I : FuncId → Option It) (L : Nat → Option DM) (n : Nat) (g : Operand) (ps : Array Tmp) (asg bd : Code) (Q : Ex → St → Prop) (s : St) : Prop :=
  match evA s.ts g with
  | .fn id cap => match I id with
    | some it => match it cap (envOf s.mem (refsL cap)) with
      | some ys => s.df = [] ∧ (∀ b ∈ refsL cap, ∀ blk, s.m[b]? = some blk → refsL blk.items = []) ∧ (∀ y ∈ ys, y.length = ps.size) ∧
        RoundsG T S L n ps.toList asg bd s.ts (refsL cap) s.m (fun x m => Q x ⟨s.ts, m, []⟩) ys s.m
      | none => False
    | none => False
  | _ => False
theorem RangeG.ex {T : TT} {S : ST} {I : FuncId → Option It} {L : Nat → Option DM} {n : Nat} {g : Operand} {ps : Array Tmp} {asg bd : Code} {Q : Ex → St → Prop} {s : St} (h : RangeG T S I L n g ps asg bd Q s) :
    ∃ id cap ys it, evA s.ts g = .fn id cap ∧ I id = some it ∧ it cap (envOf s.mem (refsL cap)) = some ys ∧ s.df = [] ∧ (∀ b ∈ refsL cap, ∀ blk, s.m[b]? = some blk → refsL blk.items = []) ∧ (∀ y ∈ ys, y.length = ps.size) ∧
    RoundsG T S L n ps.toList asg bd s.ts (refsL cap) s.m (fun x m => Q x ⟨s.ts, m, []⟩) ys s.m := by
  unfold RangeG at h
  split at h
  · rename_i id cap h1
    split at h
    · rename_i it h2
      split at h
      · rename_i ys h3
        exact ⟨id, cap, ys, it, h1, h2, h3, h⟩
      · exact h.elim
    · exact h.elim
  · exact h.elim
section
variable {P : Program} {D : Nat → Prop} {ρ0 ρ : Nat → Nat} {w0 w : World} {T : TT} {S : ST} {mem : Mem}
theorem Inv.putObj (h : Inv D ρ0 w0 ρ mem w) {r : Nat} (o : Obj) (hr : r < w0.heap.size) (hD : ∀ b, D b → ρ0 b ≠ r) : Inv D ρ0 (w0.putObj r o) ρ mem (w.putObj r o) := by
  have hne : ∀ b, mem b ≠ none → ρ b ≠ r := by
    intro b hb
    by_cases hDb : D b
    · rw [(h.ent b hDb).1]; exact hD b hDb
    · have := h.new b hb hDb; omega
  refine ⟨fun b blk hb => ?_, h.inj, h.ref, h.ent, fun b hb hDb => ?_, h.os, h.tape, h.output, ?_, fun i hi hDi => ?_⟩
  · rw [World.putObj_heap_other (hne b (by rw [hb]; simp))]; exact h.row b blk hb
  · rw [World.putObj_size]; exact h.new b hb hDb
  · rw [World.putObj_size, World.putObj_size]; exact h.size
  · rw [World.putObj_size] at hi
    by_cases e : i = r
    · subst e
      rw [World.putObj_heap_same hr, World.putObj_heap_same (Nat.lt_of_lt_of_le hr h.size)]
    · rw [World.putObj_heap_other e, World.putObj_heap_other e]; exact h.old i hi hDi
theorem Inv.at (h : Inv D ρ0 w0 ρ mem w) {r : Nat} (hr : r < w0.heap.size) (hD : ∀ b, D b → ρ0 b ≠ r) : w.heap[r]? = w0.heap[r]? := h.old r hr hD
theorem Inv.grown {w' : World} (h : Inv D ρ0 w0 ρ mem w) (hg : w.grownBy w' none) : Inv D ρ0 w0 ρ mem w' := by
  have hb : ∀ k, k < w.heap.size → w'.heap[k]? = w.heap[k]? := fun k hk => hg.block k hk (by simp)
  refine ⟨fun b blk hm => ?_, h.inj, h.ref, h.ent, h.new, hg.os.trans h.os, hg.tape.trans h.tape, hg.output.trans h.output, Nat.le_trans h.size hg.size, fun i hi hD => ?_⟩
  · rw [hb _ (h.lt (by rw [hm]; simp))]; exact h.row b blk hm
  · rw [hb _ (Nat.lt_of_lt_of_le hi h.size)]; exact h.old i hi hD
theorem Inv.lower {wr : World} (h : Inv D ρ0 wr ρ mem w) (h1 : w0.heap.size ≤ wr.heap.size) (h2 : ∀ i, i < w0.heap.size → wr.heap[i]? = w0.heap[i]?) (h3 : wr.os = w0.os) (h4 : wr.tape = w0.tape) (h5 : wr.output = w0.output) : Inv D ρ0 w0 ρ mem w :=
  ⟨h.row, h.inj, h.ref, h.ent, fun b hb hD => Nat.le_trans h1 (h.new b hb hD), h.os.trans h3, h.tape.trans h4, h.output.trans h5, Nat.le_trans h1 h.size, fun i hi hD => (h.old i (Nat.lt_of_lt_of_le hi h1) hD).trans (h2 i hi)⟩
structure LoopRoot (w wr : World) (o : Obj) : Prop where
  dd : wr.heap[w.heap.size]? = some (.deferred (some []))
  rr : wr.heap[w.heap.size + 1]? = some o
  size : w.heap.size + 2 ≤ wr.heap.size
  old : ∀ i, i < w.heap.size → wr.heap[i]? = w.heap[i]?
  os : wr.os = w.os
  tape : wr.tape = w.tape
  output : wr.output = w.output
theorem LoopRoot.put {wr : World} {o : Obj} (h : LoopRoot w wr o) (o' : Obj) : LoopRoot w (wr.putObj (w.heap.size + 1) o') o' :=
  ⟨(World.putObj_heap_other (by omega)).trans h.dd, World.putObj_heap_same (by have := h.size; omega), by rw [World.putObj_size]; exact h.size, fun i hi => (World.putObj_heap_other (by omega)).trans (h.old i hi), h.os, h.tape, h.output⟩
theorem LoopRoot.start (w : World) (o : Obj) : LoopRoot w ((w.alloc (.deferred (some []))).alloc o) o := by
  have hs : (w.alloc (.deferred (some []))).heap.size = w.heap.size + 1 := World.size_alloc _ _
  refine ⟨?_, ?_, by rw [World.size_alloc, hs]; omega, fun i hi => ?_, rfl, rfl, rfl⟩
  · exact (heap_alloc_old _ _ (by rw [hs]; omega)).trans (World.alloc_heap_new w _)
  · have := World.alloc_heap_new (w.alloc (.deferred (some []))) o
    rwa [hs] at this
  · exact (heap_alloc_old _ _ (by rw [hs]; omega)).trans (heap_alloc_old _ _ hi)
theorem setps_ok {W : World} : ∀ (ps : List Tmp) (y : List AV) {ts : List AV} {m : List Blk} {tmps : Array Value}, solidL y = true → refsL y = [] → RS D ρ0 w0 ρ ⟨ts, m, []⟩ ⟨tmps, []⟩ W →
    RS D ρ0 w0 ρ ⟨setps ps y ts, m, []⟩ ⟨(ps.zip (y.map (conc id))).foldl (fun t (p, v) => t.setIfInBounds p v) tmps, []⟩ W
  | [], y, ts, m, tmps, _, _, h => by cases y <;> exact h
  | t :: ps, [], ts, m, tmps, _, _, h => h
  | t :: ps, v :: y, ts, m, tmps, hs, hr, h => by
    simp only [solidL, Bool.and_eq_true] at hs
    simp only [refsL, List.append_eq_nil_iff] at hr
    exact setps_ok ps y hs.2 hr.2 (h.put h.inv (Later.refl _ _) (v := v) (x := conc id v) (.inr ⟨conc_noref hr.1 id ρ, okv_of_solid hs.1, by rw [hr.1]; simp⟩) (some t))
theorem fold_zip (ps : Array Tmp) (vs : List Value) (tmps : Array Value) : (ps.zip vs.toArray).foldl (fun t (p, v) => t.setIfInBounds p v) tmps = (ps.toList.zip vs).foldl (fun t (p, v) => t.setIfInBounds p v) tmps := by
  rw [← Array.foldl_toList, Array.toList_zip]
theorem RS.reroot {s : St} {a : Act} {r : Nat} (h : RS D ρ0 w0 ρ s a w) (o : Obj) (hr : r < w0.heap.size) (hD : ∀ b, D b → ρ0 b ≠ r) : RS D ρ0 (w0.putObj r o) ρ s a (w.putObj r o) :=
  ⟨h.inv.putObj o hr hD, h.tmps, h.size, h.defers, h.dref⟩
def PostR (mem : Mem) (ρ : Nat → Nat) (w : World) (Q : Ex → St → Prop) (e : Exit) (a : Act) (W : World) : Prop :=
  ∃ wr o, LoopRoot w wr o ∧ MrQ [{ target := .collected w.heap.size, args := #[] }] (Post (fun b => mem b ≠ none) ρ wr Q) e a W
theorem range_ok {I : FuncId → Option It} (hT : TOk P T) (hS : STok P S) (hI : ∀ f it, I f = some it → IterOk P f it) {L : Nat → Option DM} {n : Nat} {g : Operand} {ps : Array Tmp} {asg bd : Code} {Q : Ex → St → Prop} {s : St} {a : Act}
    (h : RS D ρ0 w0 ρ s a w) (ha : flatC asg = true) (hb : flatC bd = true) (hg : RangeG T S I L n g ps asg bd Q s) : (Code.rangeFunc g ps asg bd).wpIn Fence.wide 0 P (PostR s.mem ρ w Q) a w := by
  obtain ⟨id', cap, ys, it, hev, hit, hys, hdf, hfl, hlen, hro⟩ := hg.ex
  obtain ⟨tmps, dfs⟩ := a
  have had : dfs = [] := by have := h.defers; rw [hdf] at this; simpa using this
  subst had
  obtain ⟨eg, sg, cg⟩ := (h.ev g).get (by rw [hev]; simp)
  rw [hev] at eg sg cg
  have hcs : solidL cap = true := by simpa [okv, solid] using sg
  have hcr : ∀ c ∈ refsL cap, s.mem c ≠ none := fun c hc => cg c (by simpa [refs] using hc)
  have hρ : ∀ b, s.mem b ≠ none → ρ b < w.heap.size := fun b hb => h.inv.lt hb
  obtain ⟨hyw, hiter⟩ := hI _ _ hit cap _ ys hys
  refine wpIn_rangeFunc fun fn _ => ?_
  obtain ⟨rec, hrec⟩ : ∃ rec : LoopState → Option Code → Loop, rec = fun st pe => { state := st, pending := pe, fn, tmps, params := ps, assign := asg, body := bd, defers := w.heap.size } := ⟨_, rfl⟩
  obtain ⟨W1, hW1⟩ : ∃ W1, (w.alloc (.deferred (some []))).alloc (.loop (rec .ready none)) = W1 := ⟨_, rfl⟩
  have hR1 : LoopRoot w W1 (.loop (rec .ready none)) := by rw [← hW1]; exact LoopRoot.start w _
  have hD : ∀ r, w.heap.size ≤ r → ∀ b, s.mem b ≠ none → ρ b ≠ r := fun r hr b hb => by have := hρ b hb; omega
  have i1 : Inv (fun b => s.mem b ≠ none) ρ W1 ρ s.mem W1 := Inv.start (fun b blk hb => by rw [hR1.old _ (hρ b (by rw [hb]; simp))]; exact h.inv.row b blk hb) h.inv.inj h.inv.ref
  obtain ⟨J, hJ⟩ : ∃ J : Nat → World → Prop, J = fun j W => ∃ wr ρ' m', LoopRoot w wr (.loop (rec .ready none)) ∧ Inv (fun b => s.mem b ≠ none) ρ wr ρ' (fun b => m'[b]?) W ∧ (∀ b ∈ refsL cap, m'[b]? = s.m[b]?) ∧
    RoundsG T S L n ps.toList asg bd s.ts (refsL cap) s.m (fun x m => Q x ⟨s.ts, m, []⟩) (ys.drop j) m' := ⟨_, rfl⟩
  obtain ⟨Jx, hJx⟩ : ∃ Jx : World → Prop, Jx = fun W => ∃ wr ρ' m', LoopRoot w wr (.loop (rec .done (some .ret))) ∧ Inv (fun b => s.mem b ≠ none) ρ wr ρ' (fun b => m'[b]?) W ∧ (∀ b ∈ refsL cap, m'[b]? = s.m[b]?) ∧ Q .ret ⟨s.ts, m', []⟩ := ⟨_, rfl⟩
  have later : ∀ {wr ρ' m' W}, Inv (fun b => s.mem b ≠ none) ρ wr ρ' (fun b => (m' : List Blk)[b]?) W → Later ρ s.mem ρ' fun b => m'[b]? := fun hi b hb => hi.ent b hb
  have slots : ∀ {wr ρ' m' W}, Inv (fun b => s.mem b ≠ none) ρ wr ρ' (fun b => (m' : List Blk)[b]?) W → RS (fun b => s.mem b ≠ none) ρ wr ρ' ⟨s.ts, m', []⟩ ⟨tmps, []⟩ W := fun hi =>
    ⟨hi, fun t => (h.tmps t).later (later hi), h.size, rfl, by simp⟩
  have capt : ∀ {wr ρ' m' W}, Inv (fun b => s.mem b ≠ none) ρ wr ρ' (fun b => (m' : List Blk)[b]?) W → (∀ b ∈ refsL cap, m'[b]? = s.m[b]?) → Inv (fun b => envOf s.mem (refsL cap) b ≠ none) ρ W ρ (envOf s.mem (refsL cap)) W := by
    intro wr ρ' m' W hi hsame
    have he : ∀ b blk, envOf s.mem (refsL cap) b = some blk → b ∈ refsL cap ∧ s.mem b = some blk := by
      intro b blk hb
      unfold envOf at hb
      split at hb
      · rename_i hc; exact ⟨hc, hb⟩
      · simp at hb
    refine Inv.start (fun b blk hb => ?_) (fun b c hb hc e => ?_) (fun b blk hb => ?_)
    · obtain ⟨hc, hb⟩ := he b blk hb
      have h1 := hi.row b blk (by show m'[b]? = _; rw [hsame b hc]; exact hb)
      rw [(hi.ent b (by rw [hb]; simp)).1] at h1
      rw [h1, objOf_congr (fun c hc' => by rw [hfl b hc blk hb] at hc'; simp at hc') (σ := ρ)]
    · cases hb' : envOf s.mem (refsL cap) b with
      | none => exact absurd hb' hb
      | some blk =>
        cases hc' : envOf s.mem (refsL cap) c with
        | none => exact absurd hc' hc
        | some blk' => exact h.inv.inj b c (by rw [(he _ _ hb').2]; simp) (by rw [(he _ _ hc').2]; simp) e
    · obtain ⟨hc, hb⟩ := he b blk hb
      exact ⟨by rw [hfl b hc blk hb]; simp, (h.inv.ref b blk hb).2⟩
  refine ⟨w.heap.size + 1, [{ target := .collected w.heap.size, args := #[] }], W1, { target := .fn (.func id') (concT ρ cap).toArray, args := #[.func (.yield (w.heap.size + 1)) #[] #[]] }, W1, id',
    #[.func (.yield (w.heap.size + 1)) #[] #[]] ++ (concT ρ cap).toArray, W1, ?_, ?_, fun _ _ => trivial, ?_, fun hh => by simp [Fence.wide] at hh, ?_⟩
  · rw [← hW1, hrec]; exact run_enterLoop_outer _ _ _ _ _
  · simp only [resolve, eg, conc]
    simp [go_sem]
  all_goals
    have hmain := hiter ρ (w.heap.size + 1) J Jx W1 hcs (fun c hc => by show envOf s.mem (refsL cap) c ≠ none; unfold envOf; rw [if_pos hc]; exact hcr c hc)
      (fun j W hj => by
        rw [hJ] at hj
        obtain ⟨wr, ρ', m', -, hi, hsame, -⟩ := hj
        exact capt hi hsame)
      (fun W hj => by
        rw [hJx] at hj
        obtain ⟨wr, ρ', m', -, hi, hsame, -⟩ := hj
        exact capt hi hsame)
      (fun j W W' hj hgr => by
        rw [hJ] at hj ⊢
        obtain ⟨wr, ρ', m', h1, hi, h2⟩ := hj
        exact ⟨wr, ρ', m', h1, hi.grown hgr, h2⟩)
      (fun W W' hj hgr => by
        rw [hJx] at hj ⊢
        obtain ⟨wr, ρ', m', h1, hi, h2⟩ := hj
        exact ⟨wr, ρ', m', h1, hi.grown hgr, h2⟩)
      (fun j y W hy hj => by
        rw [hJ] at hj
        obtain ⟨wr, ρ', m', hroot, hi, hsame, hrg⟩ := hj
        have hym : y ∈ ys := List.mem_of_getElem? hy
        obtain ⟨hys1, hys2⟩ := hyw y hym
        have hdrop : ys.drop j = y :: ys.drop (j + 1) := by
          obtain ⟨hlt, hy'⟩ := List.getElem?_eq_some_iff.1 hy
          rw [List.drop_eq_getElem_cons hlt, hy']
        rw [hdrop] at hrg
        have hrlt : w.heap.size + 1 < wr.heap.size := by have := hroot.size; omega
        have hl : W.heap[w.heap.size + 1]? = some (.loop (rec .ready none)) := (hi.at hrlt (hD _ (by omega))).trans hroot.rr
        have hyl := run_yield (P := P) (args := (y.map (conc id)).toArray) hl (by rw [hrec]; simp [hlen y hym])
        rw [hrec] at hyl
        simp only at hyl
        rw [fold_zip] at hyl
        refine ⟨fn, _, asg, bd, hyl, roundIn_of_wpIn trivial ?_⟩
        have r1 := setps_ok ps.toList y hys1 hys2 (slots hi)
        refine wpIn_mono (exec_okIn (ro := some (w.heap.size + 1)) (n := 0) (base := []) hT hS asg ha r1 hrg) fun e a1 w1 hp => ?_
        obtain ⟨a1, rfl, x, s1, ρ1, r2, ⟨rfl, hd1, hg1⟩, rfl⟩ := hp
        have hl1 : w1.heap[w.heap.size + 1]? = some (.loop (rec .ready none)) := (r2.inv.at hrlt (hD _ (by omega))).trans hroot.rr
        have hroot2 := hroot.put (.loop { rec .ready none with state := .busy })
        have r3 := r2.reroot (.loop { rec .ready none with state := .busy }) hrlt (hD _ (by omega))
        refine ⟨_, run_beginRound hl1 (by rw [hrec]), ?_⟩
        refine wpIn_mono (exec_okIn (ro := some (w.heap.size + 1)) (n := 0) (base := []) hT hS bd hb r3 hg1) fun e a2 w2 hp => ?_
        obtain ⟨a2, rfl, x, s2, ρ2, r4, hx, hxe⟩ := hp
        have hrlt2 : w.heap.size + 1 < (wr.putObj (w.heap.size + 1) (.loop { rec .ready none with state := .busy })).heap.size := by rw [World.putObj_size]; exact hrlt
        have hl2 : w2.heap[w.heap.size + 1]? = some (.loop { rec .ready none with state := .busy }) := (r4.inv.at hrlt2 (hD _ (by omega))).trans hroot2.rr
        cases x with
        | norm =>
          subst hxe
          obtain ⟨hd2, hs2, hx⟩ := hx
          refine ⟨_, _, run_endRound none hl2, .inl ⟨rfl, ?_⟩⟩
          rw [hJ]
          refine ⟨_, ρ2, s2.m, ?_, r4.inv.putObj _ hrlt2 (hD _ (by omega)), hs2, hx⟩
          have := hroot2.put (.loop (rec .ready none))
          rw [hrec] at this ⊢
          exact this
        | ret =>
          subst hxe
          obtain ⟨hd2, hs2, hx⟩ := hx
          refine ⟨_, _, run_endRound (some .ret) hl2, .inr ⟨rfl, ?_⟩⟩
          rw [hJx]
          refine ⟨_, ρ2, s2.m, ?_, r4.inv.putObj _ hrlt2 (hD _ (by omega)), hs2, hx⟩
          have := hroot2.put (.loop (rec .done (some .ret)))
          rw [hrec] at this ⊢
          exact this
        | exit i => exact hx.elim
        | pan v => exact hx.elim)
      (by rw [hJ]; exact ⟨W1, ρ, s.m, hR1, i1, fun _ _ => rfl, by simpa using hro⟩)
  · simp [invoke, go_sem, hmain.1]
  · have hc2 := hmain.2
    rw [← concT_eq] at hc2
    refine hc2.mono fun e W he => ?_
    obtain ⟨⟨v, rfl⟩, he⟩ := he
    rcases he with he | he
    · rw [hJ] at he
      obtain ⟨wr, ρ', m', hroot, hi, -, hrg⟩ := he
      rw [List.drop_of_length_le (Nat.le_refl _)] at hrg
      have hrlt : w.heap.size + 1 < wr.heap.size := by have := hroot.size; omega
      have hl : W.heap[w.heap.size + 1]? = some (.loop (rec .ready none)) := (hi.at hrlt (hD _ (by omega))).trans hroot.rr
      have hend := run_endLoop (P := P) hl (by rw [hrec]; simp)
      have hpn : (rec .ready none).pending = none := by rw [hrec]
      rw [hpn] at hend
      exact ⟨none, _, hend, _, _, hroot.put _, ⟨tmps, []⟩, rfl, .norm, _, ρ', slots (hi.putObj _ hrlt (hD _ (by omega))), hrg, rfl⟩
    · rw [hJx] at he
      obtain ⟨wr, ρ', m', hroot, hi, -, hrg⟩ := he
      have hrlt : w.heap.size + 1 < wr.heap.size := by have := hroot.size; omega
      have hl : W.heap[w.heap.size + 1]? = some (.loop (rec .done (some .ret))) := (hi.at hrlt (hD _ (by omega))).trans hroot.rr
      have hend := run_endLoop (P := P) hl (by rw [hrec]; simp)
      have hpn : (rec .done (some .ret)).pending = some .ret := by rw [hrec]
      rw [hpn] at hend
      exact ⟨some .ret, _, hend, wpIn_ret ⟨_, _, hroot.put _, ⟨tmps, []⟩, rfl, .ret, _, ρ', slots (hi.putObj _ hrlt (hD _ (by omega))), hrg, rfl⟩⟩
end
end Go.X
end

section
namespace Go.X
section
variable {P : Program} {D : Nat → Prop} {ρ0 ρ : Nat → Nat} {w0 w : World} {T : TT} {S : ST} {mem : Mem} {m : List Blk}
abbrev rfBody (c0 c1 c2 : Code) (i : Nat) (g : Operand) (ps : Array Tmp) (asg bd c3 : Code) : Code := .seq c0 (.seq c1 (.seq (.seq c2 (.block i (.rangeFunc g ps asg bd))) c3))
def AfterR (T : TT) (S : ST) (L : Nat → Option DM) (n : Nat) (c3 : Code) (rs : List ResultVar) (R : AV → List Blk → Prop) : Ex → St → Prop
  | .norm, s => Good (exec T S L n c3 s) (Ends T rs R fun _ _ => False)
  | .ret, s => Ends T rs R (fun _ _ => False) .ret s
  | _, _ => False
def ThenG (T : TT) (S : ST) (L : Nat → Option DM) (n : Nat) (c : Code) (K : Ex → St → Prop) (x : Ex) (s : St) : Prop := x = .norm ∧ Good (exec T S L n c s) K
def ThenR (T : TT) (S : ST) (I : FuncId → Option It) (L : Nat → Option DM) (n : Nat) (g : Operand) (ps : Array Tmp) (asg bd : Code) (Q : Ex → St → Prop) (x : Ex) (s : St) : Prop := x = .norm ∧ RangeG T S I L n g ps asg bd Q s
theorem calls_range {chk : Array Oper → Option DM → Bool} (hchk : DrawSound P chk) (hT : TOk P T) (hS : STok P S) {I : FuncId → Option It} (hI : ∀ f it, I f = some it → IterOk P f it) {L : Nat → Option DM} {n : Nat} {f : FuncId} {fn : Func}
    {c0 c1 c2 asg bd c3 : Code} {i : Nat} {g : Operand} {ps : Array Tmp} (hf : P.funcs[f]? = some fn) (hb : fn.body = some (rfBody c0 c1 c2 i g ps asg bd c3)) (h0 : drawsOk chk L c0 = true) (h1 : drawsOk chk L c1 = true) (h2 : drawsOk chk L c2 = true)
    (ha : flatC asg = true) (hbd : flatC bd = true) (h3 : flatC c3 = true)
    (h : Inv D ρ0 w0 ρ (fun b => m[b]?) w) {args : List AV} (hargs : solidL args = true) (hr : ∀ c ∈ refsL args, (fun b => m[b]?) c ≠ none) {R : AV → List Blk → Prop}
    (hg : Good (exec T S L n c0 (initS args fn.ntmps m)) (ThenG T S L n c1 (ThenG T S L n c2 (ThenR T S I L n g ps asg bd (AfterR T S L n c3 fn.results.toList R))))) :
    Calls P f (args.map (conc ρ)).toArray w fun e w' => ∃ ρ' v m', Inv D ρ0 w0 ρ' (fun b => m'[b]?) w' ∧ (∀ c ∈ refs v, (fun b => m'[b]?) c ≠ none) ∧ okv v = true ∧ e = .returned (conc ρ' v) ∧ R v m' := by
  refine callsIn_wide.1 (callsIn_of_wp_marks (n := 0) hf hb trivial ?_)
  refine wpIn_seq (wpIn_mono (wpIn_wide.2 (exec_ok hchk hT hS c0 h0 (init_ok h hargs hr fn.ntmps) hg)) fun e a w' hp => ?_)
  obtain ⟨x, s0, ρ1, r1, ⟨rfl, hg⟩, rfl⟩ := hp
  refine wpIn_seq (wpIn_mono (wpIn_wide.2 (exec_ok hchk hT hS c1 h1 r1 hg)) fun e a w' hp => ?_)
  obtain ⟨x, s1, ρ2, r2, ⟨rfl, hg⟩, rfl⟩ := hp
  refine wpIn_seq (wpIn_seq (wpIn_mono (wpIn_wide.2 (exec_ok hchk hT hS c2 h2 r2 hg)) fun e a w' hp => ?_))
  obtain ⟨x, s2, ρ3, r3, ⟨rfl, hg⟩, rfl⟩ := hp
  have leave : ∀ {wr o e a W x s ρ'}, LoopRoot w' wr o → RS (fun b => s2.mem b ≠ none) ρ3 wr ρ' s a W → Ends T fn.results.toList R (fun _ _ => False) x s → (match x with | .norm => e = .normal | .exit id => e = .exit id | .ret => e = .ret | .pan v => e = .panic [{ v := conc ρ' v, recovered := false }] ∧ solid v = true ∧ ∀ c ∈ refs v, s.mem c ≠ none) →
      bodyPostM Fence.wide 0 P fn (fun e w' => ∃ ρ' v m', Inv D ρ0 w0 ρ' (fun b => m'[b]?) w' ∧ (∀ c ∈ refs v, (fun b => m'[b]?) c ≠ none) ∧ okv v = true ∧ e = .returned (conc ρ' v) ∧ R v m') e (more [{ target := .collected w'.heap.size, args := #[] }] a) W := by
    intro wr o e a W x s ρ' hroot hrs hends hx
    have fin : s.df = [] → ∀ v, resA T s fn.results.toList = some v → R v s.m → LeavesInM Fence.wide 0 P fn a.tmps (fun e w' => ∃ ρ' v m', Inv D ρ0 w0 ρ' (fun b => m'[b]?) w' ∧ (∀ c ∈ refs v, (fun b => m'[b]?) c ≠ none) ∧ okv v = true ∧ e = .returned (conc ρ' v) ∧ R v m')
        (a.defers ++ [{ target := .collected w'.heap.size, args := #[] }]) .returning W := by
      intro hdf v hv hR
      have hd : a.defers = [] := by rw [hrs.defers, hdf]; rfl
      rw [hd, List.nil_append]
      have hlt : w'.heap.size < wr.heap.size := by have := hroot.size; omega
      have hne : ∀ b, s2.mem b ≠ none → ρ3 b ≠ w'.heap.size := fun b hb => by have := r3.inv.lt hb; omega
      have hdd : W.heap[w'.heap.size]? = some (.deferred (some [])) := (hrs.inv.at hlt hne).trans hroot.dd
      have hr4 := hrs.reroot (.deferred none) hlt hne
      obtain ⟨q1, q2, q3⟩ := resA_ok hT hr4 hv
      refine ⟨by simp, .inl ⟨_, _, rfl, run_takeDeferred hdd, _, q1, ρ', v, s.m, ?_, q3, q2, rfl, hR⟩⟩
      have hlow : Inv (fun b => s2.mem b ≠ none) ρ3 w' ρ' s.mem (W.putObj w'.heap.size (.deferred none)) :=
        hr4.inv.lower (by rw [World.putObj_size]; omega) (fun i hi => (World.putObj_heap_other (by omega)).trans (hroot.old i hi)) hroot.os hroot.tape hroot.output
      exact (r3.inv.then hlow).1
    cases x with
    | norm => subst hx; obtain ⟨hdf, v, hv, hR⟩ := hends; exact fin hdf v hv hR
    | ret => subst hx; obtain ⟨hdf, v, hv, hR⟩ := hends; exact fin hdf v hv hR
    | exit id => exact hends.elim
    | pan v => exact hends.2.elim
  refine wpIn_block (wpIn_mono (range_ok hT hS hI r3 ha hbd hg) fun e a W hp => ?_)
  obtain ⟨wr, o, hroot, a', rfl, x, s, ρ', hrs, hq, hx⟩ := hp
  cases x with
  | norm =>
    subst hx
    refine wpIn_mono (exec_okIn (ro := none) (n := 0) (base := [{ target := .collected w'.heap.size, args := #[] }]) hT hS c3 h3 hrs hq) fun e a W hp => ?_
    obtain ⟨a', rfl, x, s', ρ'', hrs', hq', hx'⟩ := hp
    exact leave hroot hrs' hq' hx'
  | ret => subst hx; exact leave (x := .ret) hroot hrs hq rfl
  | exit id => exact hq.elim
  | pan v => exact hq.elim
theorem sum_range {chk : Array Oper → Option DM → Bool} (hchk : DrawSound P chk) (hT : TOk P T) (hS : STok P S) {I : FuncId → Option It} (hI : ∀ f it, I f = some it → IterOk P f it) {L : Nat → Option DM} {n : Nat} {f : FuncId} {fn : Func}
    {c0 c1 c2 asg bd c3 : Code} {i : Nat} {o : Operand} {ps : Array Tmp} (hf : P.funcs[f]? = some fn) (hb : fn.body = some (rfBody c0 c1 c2 i o ps asg bd c3)) (hn : (fn.name == "runtime.NumGoroutine") = false) (h0 : drawsOk chk L c0 = true) (h1 : drawsOk chk L c1 = true) (h2 : drawsOk chk L c2 = true)
    (ha : flatC asg = true) (hbd : flatC bd = true) (h3 : flatC c3 = true) {g : List AV → PR} (hp : ∀ args v, g args ≠ .pan v)
    (hv : ∀ args v, g args = .val v → refsL args = [] ∧ okv v = true ∧ refs v = [] ∧ Good (exec T S L n c0 (initS args fn.ntmps [])) (ThenG T S L n c1 (ThenG T S L n c2 (ThenR T S I L n o ps asg bd (AfterR T S L n c3 fn.results.toList fun u _ => Eqv u v))))) : SumOk P f (pureS g) := by
  intro args D ρ0 w0 ρ mem env nxt w henv hnf hso hrf hfr hi
  have hnf' : g args ≠ .fail := by intro e; simp [pureS, e] at hnf
  refine .inr ⟨callFunc_enter hf hn (by rw [hb]; rfl) _, ?_⟩
  have start : Inv (fun b => (fun _ => none : Mem) b ≠ none) ρ w ρ (fun b => ([] : List Blk)[b]?) w := by
    have := Inv.start (w := w) (ρ := ρ) (mem := fun b => ([] : List Blk)[b]?) (by simp) (by simp) (by simp)
    simpa using this
  unfold pureS
  cases hv' : g args with
  | fail => exact absurd hv' hnf'
  | pan v => exact absurd hv' (hp args v)
  | val v =>
    obtain ⟨hra, g1, g2, g3⟩ := hv args v hv'
    refine (calls_range hchk hT hS hI hf hb h0 h1 h2 ha hbd h3 start hso (by rw [hra]; simp) g3).mono fun e w' he => ?_
    obtain ⟨ρ', u, m', k1, k2, k3, rfl, hE⟩ := he
    refine ⟨ρ, conc ρ v, by rw [hE ρ', conc_noref g2 ρ' ρ], .inr ⟨rfl, g1, by rw [g2]; simp⟩, ?_, ?_, ?_⟩
    · rintro rfl; simp [okv, solid] at g1
    · rw [memNew_nil, memUp_nil]; exact hi.from k1
    · rw [memNew_nil, memUp_nil]; exact Later.refl _ _
end
end Go.X
end

section
namespace Go.X
def resetS (m0 : List Blk) (s : St) : St := ⟨s.ts.map fun v => if (refs v).all (fun b => decide (b < m0.length)) then v else .undef, m0, []⟩
def yldArgs (Y : List Tmp) (o : Oper) (s : St) : Option (List AV) := match o.op with
  | .call { callee := .value (.tmp t), args, argTypes := _ } => if Y.contains t then some (args.toList.map (evA s.ts)) else none
  | _ => none
def movY (Y : List Tmp) (o : Oper) : Bool := match o.op with
  | .move (.tmp t) => Y.contains t
  | _ => false
def addY (d : Option Tmp) (n : Nat) (Y : List Tmp) : List Tmp := match d with
  | some t => if t < n then t :: Y else Y.filter fun u => u != t
  | none => Y
def delY (d : Option Tmp) (Y : List Tmp) : List Tmp := match d with
  | some t => Y.filter fun u => u != t
  | none => Y
abbrev PY := St → List Tmp → Option Nat → Prop
def nextY (f : PY) (Y : List Tmp) (i : Option Nat) (x : Ex) (s : St) : Prop := x = .norm ∧ f s Y i
def yldK (f : PY) (ys : List (List AV)) (m0 : List Blk) (d : Option Tmp) (s : St) (Y : List Tmp) : Option Nat → List AV → Prop
  | some j, vs => ys[j]? = some vs ∧ s.m.take m0.length = m0 ∧ s.df = [] ∧ f ((resetS m0 s).put d (.bool true)) (delY d Y) (some (j + 1)) ∧ f ((resetS m0 s).put d (.bool false)) (delY d Y) none
  | none, _ => False
def stepY (T : TT) (S : ST) (ys : List (List AV)) (m0 : List Blk) (f : PY) (o : Oper) (s : St) (Y : List Tmp) (i : Option Nat) : Option (List AV) → Prop
  | some vs => yldK f ys m0 o.dst s Y i vs
  | none => if movY Y o = true then f (s.put o.dst .undef) (addY o.dst s.ts.length Y) i else Good (doOp T S o s) (nextY f (delY o.dst Y) i)
def gateY (ops : Array Oper) (s : St) (o : Oper) : Option Bool := match o.guard with
  | none => some true
  | some (j, want) => match (ops[j]?).bind (·.dst) with
    | none => some false
    | some d => match s.ts.getD d .undef with
      | .bool b => some (b == want)
      | .undef => none
      | _ => some false
def gateK (T : TT) (S : ST) (ys : List (List AV)) (m0 : List Blk) (f : PY) (o : Oper) (s : St) (Y : List Tmp) (i : Option Nat) : Option Bool → Prop
  | some true => stepY T S ys m0 f o s Y i (yldArgs Y o s)
  | some false => f (s.put o.dst (.tup [])) (delY o.dst Y) i
  | none => False
def opsY (T : TT) (S : ST) (ys : List (List AV)) (m0 : List Blk) (ops : Array Oper) (Q : PY) : List Oper → PY
  | [], s, Y, i => Q s Y i
  | o :: rest, s, Y, i => noDefer o = true ∧ gateK T S ys m0 (opsY T S ys m0 ops Q rest) o s Y i (gateY ops s o)
def seqY (f : PY) (Q : Ex → PY) : Ex → PY
  | .norm => f
  | x => Q x
def unY (id : Nat) (Q : Ex → PY) : Ex → PY
  | .exit i => if i = id then Q .norm else Q (.exit i)
  | x => Q x
def loopY (f : (Ex → PY) → PY) : Nat → (Ex → PY) → PY
  | 0, _ => fun _ _ _ => False
  | n + 1, Q => f (seqY (loopY f n Q) Q)
def codeY (T : TT) (S : ST) (ys : List (List AV)) (m0 : List Blk) (n : Nat) : Code → (Ex → PY) → PY
  | .skip, Q => Q .norm
  | .label _, Q => Q .norm
  | .region _ ops false, Q => opsY T S ys m0 ops (Q .norm) ops.toList
  | .seq a b, Q => codeY T S ys m0 n a (seqY (codeY T S ys m0 n b Q) Q)
  | .cond c x y, Q => fun s Y i => match evA s.ts c with
    | .bool b => if b = true then codeY T S ys m0 n x Q s Y i else codeY T S ys m0 n y Q s Y i
    | _ => False
  | .block id c, Q => codeY T S ys m0 n c (unY id Q)
  | .loop c, Q => loopY (codeY T S ys m0 n c) n Q
  | .exit id, Q => Q (.exit id)
  | .ret, Q => Q .ret
  | _, _ => fun _ _ _ => False
section
variable {P : Program} {D : Nat → Prop} {ρ0 ρ : Nat → Nat} {w0 w : World} {T : TT} {S : ST} {mem : Mem}
theorem take_get {m m0 : List Blk} (h : m.take m0.length = m0) {b : Nat} (hb : m0[b]? ≠ none) : m[b]? = m0[b]? := by
  have hlt : b < m0.length := by
    rcases Nat.lt_or_ge b m0.length with h' | h'
    · exact h'
    · exact absurd (List.getElem?_eq_none h') hb
  have := congrArg (fun l => l[b]?) h
  simp only [List.getElem?_take, if_pos hlt] at this
  exact this
theorem Inv.grew {m0 m : List Blk} {wr : World} (h0 : Inv (fun b => m0[b]? ≠ none) ρ0 wr ρ0 (fun b => m0[b]?) wr) (h : Inv (fun b => m0[b]? ≠ none) ρ0 wr ρ (fun b => m[b]?) w) (ht : m.take m0.length = m0) : wr.grownBy w none := by
  refine ⟨h.os, h.tape, h.output, h.size, fun k hk _ => ?_⟩
  by_cases hex : ∃ b, m0[b]? ≠ none ∧ ρ0 b = k
  · obtain ⟨b, hb, rfl⟩ := hex
    cases hm : m0[b]? with
    | none => exact absurd hm hb
    | some blk =>
      have h1 := h0.row b blk hm
      have h2 := h.row b blk (by rw [show m[b]? = m0[b]? from take_get ht hb]; exact hm)
      rw [(h.ent b hb).1] at h2
      rw [h1, h2, objOf_congr fun c hc => (h.ent c ((h0.ref b blk hm).1 c hc)).1]
  · exact h.old k hk fun b hb e => hex ⟨b, hb, e⟩
theorem RS.reset {m0 : List Blk} {wr W : World} {s : St} {a : Act} (h : RS (fun b => m0[b]? ≠ none) ρ0 wr ρ s a w) (hd : s.df = []) (hW : Inv (fun b => m0[b]? ≠ none) ρ0 W ρ0 (fun b => m0[b]?) W) :
    RS (fun b => m0[b]? ≠ none) ρ0 W ρ0 (resetS m0 s) a W := by
  refine ⟨hW, fun t => ?_, by simp [resetS, h.size], by simp [resetS, h.defers, hd], by simp [resetS]⟩
  simp only [resetS, List.getD_eq_getElem?_getD, List.getElem?_map]
  have ht := h.tmps t
  simp only [List.getD_eq_getElem?_getD] at ht
  cases hs : s.ts[t]? with
  | none => exact .inl rfl
  | some v =>
    rw [hs] at ht
    simp only [Option.getD_some] at ht
    simp only [Option.map_some, Option.getD_some]
    split
    · rename_i hall
      rcases ht with rfl | ⟨h1, h2, h3⟩
      · exact .inl rfl
      · have hin : ∀ c ∈ refs v, m0[c]? ≠ none := fun c hc => by
          have := List.all_eq_true.1 hall c hc
          simp only [decide_eq_true_eq] at this
          simp [this]
        exact .inr ⟨h1.trans (conc_congr v fun c hc => (h.inv.ent c (hin c hc)).1), h2, hin⟩
    · exact .inl rfl
theorem put_getD (a : Act) (d : Tmp) (x : Value) (t : Tmp) : (a.put (some d) x).tmps.getD t Go.undef = if t = d ∧ d < a.tmps.size then x else a.tmps.getD t Go.undef := by
  simp only [Act.put, Array.getD_eq_getD_getElem?, Array.getElem?_setIfInBounds]
  by_cases h : d = t
  · subst h
    by_cases hl : d < a.tmps.size
    · simp [hl]
    · simp [hl]
  · rw [if_neg h, if_neg (fun hh => h hh.1.symm)]
structure YCtx (P : Program) (m0 : List Blk) (r0 : Nat → Nat) (l : Nat) (ys : List (List AV)) (J : Nat → World → Prop) (Jx : World → Prop) : Prop where
  sol : ∀ y ∈ ys, solidL y = true ∧ refsL y = []
  inv : ∀ j W, J j W → Inv (fun b => m0[b]? ≠ none) r0 W r0 (fun b => m0[b]?) W
  invx : ∀ W, Jx W → Inv (fun b => m0[b]? ≠ none) r0 W r0 (fun b => m0[b]?) W
  grow : ∀ j W W', J j W → W.grownBy W' none → J j W'
  growx : ∀ W W', Jx W → W.grownBy W' none → Jx W'
  yld : ∀ j y W, ys[j]? = some y → J j W → YieldAt Fence.wide 0 P l (y.map (conc id)).toArray W fun e W' => (e = .returned (.bool true) ∧ J (j + 1) W') ∨ (e = .returned (.bool false) ∧ Jx W')
def JJ (J : Nat → World → Prop) (Jx : World → Prop) : Option Nat → World → Prop
  | some j => J j
  | none => Jx
def RY (m0 : List Blk) (r0 : Nat → Nat) (l : Nat) (J : Nat → World → Prop) (Jx : World → Prop) (s : St) (Y : List Tmp) (i : Option Nat) (a : Act) (w : World) : Prop :=
  ∃ wr ρ, RS (fun b => m0[b]? ≠ none) r0 wr ρ s a w ∧ Inv (fun b => m0[b]? ≠ none) r0 wr r0 (fun b => m0[b]?) wr ∧ JJ J Jx i wr ∧ ∀ t ∈ Y, a.tmps.getD t Go.undef = .func (.yield l) #[] #[]
def PostY (m0 : List Blk) (r0 : Nat → Nat) (l : Nat) (J : Nat → World → Prop) (Jx : World → Prop) (Q : Ex → PY) (e : Exit) (a : Act) (w : World) : Prop :=
  ∃ x s Y i, RY m0 r0 l J Jx s Y i a w ∧ Q x s Y i ∧ (match x with
    | .norm => e = .normal
    | .exit id => e = .exit id
    | .ret => e = .ret
    | .pan _ => False)
theorem opsY_ok (hT : TOk P T) (hS : STok P S) {m0 : List Blk} {r0 : Nat → Nat} {l : Nat} {ys : List (List AV)} {J : Nat → World → Prop} {Jx : World → Prop} (hC : YCtx P m0 r0 l ys J Jx) {ops : Array Oper} {Q : Ex → PY} :
    ∀ (lo : List Oper) {s : St} {Y : List Tmp} {i : Option Nat} {a : Act} {w : World}, RY m0 r0 l J Jx s Y i a w → opsY T S ys m0 ops (Q .norm) lo s Y i → wpListIn Fence.wide 0 P ops (PostY m0 r0 l J Jx Q) lo a w
  | [], s, Y, i, a, w, h, hq => ⟨.norm, s, Y, i, h, hq, rfl⟩
  | o :: rest, s, Y, i, a, w, h, hq => by
    obtain ⟨hnd, hq⟩ := hq
    have hwide : ¬ (Fence.wide.depth.isSome = true) := by simp [Fence.wide]
    obtain ⟨wr, ρ, hrs, hst, hj, hY⟩ := h
    have hdel : ∀ {x : Value}, ∀ t ∈ delY o.dst Y, (a.put o.dst x).tmps.getD t Go.undef = .func (.yield l) #[] #[] := by
      intro x t ht
      cases hd : o.dst with
      | none => rw [hd] at ht; exact hY t ht
      | some d =>
        rw [hd] at ht
        simp only [delY, List.mem_filter, bne_iff_ne, ne_eq] at ht
        rw [put_getD, if_neg (fun hh => ht.2 hh.1)]
        exact hY t ht.1
    have hgate : (gateY ops s o = some true → Region.wanted o (yielded ops a.tmps) = true) ∧ (gateY ops s o = some false → Region.wanted o (yielded ops a.tmps) = false) := by
      unfold gateY
      split
      · rename_i hgd; simp [Region.wanted, hgd]
      · rename_i k want hgd
        split
        · rename_i hd
          have : yielded ops a.tmps k = none := by unfold yielded; rw [hd]; rfl
          simp [Region.wanted, hgd, this]
        · rename_i d hd
          obtain ⟨y1, y2⟩ := yielded_ok hrs hd
          split
          · rename_i b hb
            have hy := y1 b hb
            simp [Region.wanted, hgd, hy]
          · simp
          · rename_i hnb hnu
            have hy := y2 hnu hnb
            simp [Region.wanted, hgd, hy]
    unfold wpListIn
    unfold gateK at hq
    split at hq
    rotate_left
    · -- left out
      rename_i hgt
      rw [if_neg (by rw [hgate.2 hgt]; simp)]
      exact ⟨fun _ _ => trivial, opsY_ok hT hS hC rest ⟨wr, ρ, hrs.skip o.dst, hst, hj, hdel⟩ hq⟩
    · exact hq.elim
    rename_i hgt
    rw [if_pos (hgate.1 hgt)]
    unfold stepY at hq
    split at hq
    · -- yield
      rename_i _ vs hvs
      cases i with
      | none => exact hq.elim
      | some j =>
      obtain ⟨hys, htk, hdf, hq1, hq2⟩ := hq
      obtain ⟨t, args, at_, ho, hYt, rfl⟩ : ∃ t args at_, o.op = .call { callee := .value (.tmp t), args, argTypes := at_ } ∧ t ∈ Y ∧ vs = args.toList.map (evA s.ts) := by
        unfold yldArgs at hvs
        split at hvs
        · rename_i t args at_ ho
          split at hvs
          · rename_i hc
            simp only [Option.some.injEq] at hvs
            exact ⟨t, args, at_, ho, by simpa using hc, hvs.symm⟩
          · simp at hvs
        · simp at hvs
      obtain ⟨y1, y2⟩ := hC.sol _ (List.mem_of_getElem? hys)
      have hjw : J j w := hC.grow j wr w hj (hst.grew hrs.inv htk)
      obtain ⟨fn, tmps, asg, bd, hyl, hround⟩ := hC.yld j _ w hys hjw
      have hargs : args.toList.map a.eval = (args.toList.map (evA s.ts)).map (conc id) := by
        rw [map_ev (fun x => hrs.ev x) rfl (mem_solidL.1 y1)]
        refine List.map_congr_left fun v hv => conc_noref ?_ _ _
        cases hr : refs v with
        | nil => rfl
        | cons c l =>
          have : c ∈ refsL (args.toList.map (evA s.ts)) := mem_refsL.2 ⟨v, hv, by rw [hr]; simp⟩
          rw [y2] at this
          simp at this
      have hexec : (execOp a.eval o).run P w = .ok (.round l fn tmps asg bd) w := by
        unfold execOp
        rw [ho]
        have e1 : a.eval (.tmp t) = .func (.yield l) #[] #[] := hY t hYt
        have e2 : args.map a.eval = ((args.toList.map (evA s.ts)).map (conc id)).toArray := by
          rw [← hargs]; apply Array.toList_inj.1; simp
        simp only [resolve, e1, Deferred.ofValue, Sem.run_bind, Sem.run_pure, Result.andThen_ok, invoke, e2, Array.empty_append]
        exact hyl
      refine ⟨fun _ _ => trivial, ?_⟩
      rw [Oper.semAt_eq _ _ _ (noDefer_ne hnd), hexec]
      refine ⟨fun hh => absurd hh hwide, hround.mono fun e W' he => ?_⟩
      rcases he with ⟨rfl, hJ'⟩ | ⟨rfl, hJ'⟩
      · have hi := hC.inv _ _ hJ'
        refine opsY_ok (i := some (j + 1)) hT hS hC rest ⟨W', r0, ?_, hi, hJ', hdel⟩ hq1
        exact (hrs.reset hdf hi).put hi (Later.refl _ _) (.inr ⟨rfl, rfl, by simp [refs]⟩) o.dst
      · have hi := hC.invx _ hJ'
        refine opsY_ok (i := none) hT hS hC rest ⟨W', r0, ?_, hi, hJ', hdel⟩ hq2
        exact (hrs.reset hdf hi).put hi (Later.refl _ _) (.inr ⟨rfl, rfl, by simp [refs]⟩) o.dst
    · split at hq
      · -- yield itself moved
        rename_i hmv
        obtain ⟨t, ho, hYt⟩ : ∃ t, o.op = .move (.tmp t) ∧ t ∈ Y := by
          unfold movY at hmv
          split at hmv
          · rename_i t ho; exact ⟨t, ho, by simpa using hmv⟩
          · simp at hmv
        have e1 : a.eval (.tmp t) = .func (.yield l) #[] #[] := hY t hYt
        have hexec : (execOp a.eval o).run P w = .ok (.value (.func (.yield l) #[] #[])) w := by
          unfold execOp
          rw [ho]
          simp [e1]
        refine ⟨fun _ _ => trivial, ?_⟩
        rw [Oper.semAt_eq _ _ _ (noDefer_ne hnd), hexec]
        refine opsY_ok hT hS hC rest ⟨wr, ρ, hrs.put hrs.inv (Later.refl _ _) (SR.undef _ _ _) o.dst, hst, hj, ?_⟩ hq
        intro t' ht'
        cases hd : o.dst with
        | none => rw [hd] at ht'; exact hY t' ht'
        | some d =>
          rw [hd] at ht'
          simp only [addY] at ht'
          rw [put_getD, hrs.size]
          split at ht'
          · rename_i hlt
            by_cases he : t' = d ∧ d < s.ts.length
            · rw [if_pos he]
            · rw [if_neg he]
              simp only [List.mem_cons] at ht'
              rcases ht' with rfl | ht'
              · exact absurd ⟨rfl, hlt⟩ he
              · exact hY t' ht'
          · simp only [List.mem_filter, bne_iff_ne, ne_eq] at ht'
            rw [if_neg (fun hh => ht'.2 hh.1)]
            exact hY t' ht'.1
      · -- any other
        have h1 : o.wp P a w (fun a' w' => wpListIn Fence.wide 0 P ops (PostY m0 r0 l J Jx Q) rest a' w') (fun _ _ _ => False) := by
          refine doOp_ok hT hS hrs hq (fun s' ρ' a' w' h' hq' _ hoth => ?_) (fun e a' w' hp => ?_)
          · refine opsY_ok hT hS hC rest ⟨wr, ρ', h', hst, hj, fun t ht => ?_⟩ hq'.2
            cases hd : o.dst with
            | none => rw [hd] at ht; rw [hoth t (by rw [hd]; simp)]; exact hY t ht
            | some d =>
              rw [hd] at ht
              simp only [delY, List.mem_filter, bne_iff_ne, ne_eq] at ht
              rw [hoth t (by rw [hd]; simp; exact fun e => ht.2 e.symm)]
              exact hY t ht.1
          · obtain ⟨x, s', ρ', -, h2, -⟩ := hp
            cases x with
            | norm => exact h2.elim
            | exit id => cases h2.1
            | ret => cases h2.1
            | pan v => cases h2.1
        have h2 := oper_in (ro := none) (n := 0) (base := []) (noDefer_ne hnd) h1
        refine ⟨h2.1, ?_⟩
        have hm : more [] a = a := by cases a; simp [more]
        rw [hm] at h2
        have key : ∀ r, o.uponIn (FW none) 0 P a (Mr [] fun a' w' => wpListIn Fence.wide 0 P ops (PostY m0 r0 l J Jx Q) rest a' w') (MrQ [] fun _ _ _ => False) r →
            o.uponIn Fence.wide 0 P a (wpListIn Fence.wide 0 P ops (PostY m0 r0 l J Jx Q) rest) (PostY m0 r0 l J Jx Q) r := by
          intro r hr
          have un : ∀ a' w', Mr [] (fun a' w' => wpListIn Fence.wide 0 P ops (PostY m0 r0 l J Jx Q) rest a' w') a' w' → wpListIn Fence.wide 0 P ops (PostY m0 r0 l J Jx Q) rest a' w' := by
            rintro a' w' ⟨a'', rfl, h⟩
            have : more [] a'' = a'' := by cases a''; simp [more]
            rw [this]; exact h
          unfold Oper.uponIn at hr ⊢
          split at hr
          · exact un _ _ hr
          · exact un _ _ hr
          · exact un _ _ hr
          · refine ⟨hr.1, CallsIn.mono (F := Fence.wide) hr.2 fun e w'' he => ?_⟩
            cases e with
            | returned v => exact un _ _ he
            | panicked c => obtain ⟨_, _, hF⟩ := he; exact hF.elim
            | outgrown => obtain ⟨_, _, _, _, hF⟩ := he; exact hF.elim
          · exact ⟨hr.1, RowsIn.mono (F := Fence.wide) hr.2 fun v w'' he => un _ _ he⟩
          · refine ⟨hr.1, RoundIn.mono (F := Fence.wide) hr.2 fun e w'' he => ?_⟩
            cases e with
            | returned v => exact un _ _ he
            | panicked c => obtain ⟨_, _, hF⟩ := he; exact hF.elim
            | outgrown => obtain ⟨_, _, _, _, hF⟩ := he; exact hF.elim
          · obtain ⟨_, _, hF⟩ := hr; exact hF.elim
          · exact hr.elim
        exact key _ h2.2
theorem least {p : Nat → Prop} (h : ∃ k, p k) : ∃ k, p k ∧ ∀ j, p j → k ≤ j := by
  obtain ⟨k, hk⟩ := h
  induction k using Nat.strongRecOn with
  | _ k ih =>
    by_cases hex : ∃ j, j < k ∧ p j
    · obtain ⟨j, h1, h2⟩ := hex; exact ih j h1 h2
    · exact ⟨k, hk, fun j hj => Nat.le_of_not_lt fun h => hex ⟨j, h, hj⟩⟩
theorem loopY_ok {m0 : List Blk} {r0 : Nat → Nat} {l : Nat} {J : Nat → World → Prop} {Jx : World → Prop} {c : Code} {f : (Ex → PY) → PY}
    (hc : ∀ {Q : Ex → PY} {s : St} {Y : List Tmp} {i : Option Nat} {a : Act} {w : World}, RY m0 r0 l J Jx s Y i a w → f Q s Y i → c.wpIn Fence.wide 0 P (PostY m0 r0 l J Jx Q) a w) {Q : Ex → PY} (n : Nat)
    {s : St} {Y : List Tmp} {i : Option Nat} {a : Act} {w : World} (h : RY m0 r0 l J Jx s Y i a w) (hq : loopY f n Q s Y i) : (Code.loop c).wpIn Fence.wide 0 P (PostY m0 r0 l J Jx Q) a w := by
  obtain ⟨μ, hμ⟩ : ∃ μ : Act → World → Nat → Prop, μ = fun a w k => ∃ s Y i, RY m0 r0 l J Jx s Y i a w ∧ loopY f k Q s Y i := ⟨_, rfl⟩
  classical
  obtain ⟨nu, hnu⟩ : ∃ nu : Act → World → Nat, ∀ a w, (∃ k, μ a w k) → μ a w (nu a w) ∧ ∀ k, μ a w k → nu a w ≤ k :=
    ⟨fun a w => if h : ∃ k, μ a w k then Classical.choose (least h) else 0, fun a w h => by simp only [dif_pos h]; exact Classical.choose_spec (least h)⟩
  refine wpIn_loop (fun a w => ∃ k, μ a w k) nu ⟨n, by rw [hμ]; exact ⟨s, Y, i, h, hq⟩⟩ fun a w hk => ?_
  obtain ⟨h1, h2⟩ := hnu a w hk
  rw [hμ] at h1
  obtain ⟨s, Y, i, hr, hl⟩ := h1
  cases hn : nu a w with
  | zero => rw [hn] at hl; exact hl.elim
  | succ k =>
    rw [hn] at hl
    refine wpIn_mono (hc hr hl) fun e a' w' hp => ?_
    obtain ⟨x, s', Y', i', hr', hq', hx⟩ := hp
    cases x with
    | norm =>
      subst hx
      have hk' : μ a' w' k := by rw [hμ]; exact ⟨s', Y', i', hr', hq'⟩
      refine ⟨⟨k, hk'⟩, ?_⟩
      have := (hnu a' w' ⟨k, hk'⟩).2 k hk'
      omega
    | exit id => subst hx; exact ⟨_, s', Y', i', hr', hq', rfl⟩
    | ret => subst hx; exact ⟨_, s', Y', i', hr', hq', rfl⟩
    | pan v => exact hx.elim
theorem codeY_ok (hT : TOk P T) (hS : STok P S) {m0 : List Blk} {r0 : Nat → Nat} {l : Nat} {ys : List (List AV)} {J : Nat → World → Prop} {Jx : World → Prop} (hC : YCtx P m0 r0 l ys J Jx) {n : Nat} :
    ∀ (c : Code) {Q : Ex → PY} {s : St} {Y : List Tmp} {i : Option Nat} {a : Act} {w : World}, RY m0 r0 l J Jx s Y i a w → codeY T S ys m0 n c Q s Y i → c.wpIn Fence.wide 0 P (PostY m0 r0 l J Jx Q) a w
  | .skip, Q, s, Y, i, a, w, h, hq => wpIn_skip ⟨.norm, s, Y, i, h, hq, rfl⟩
  | .label _, Q, s, Y, i, a, w, h, hq => wpIn_label ⟨.norm, s, Y, i, h, hq, rfl⟩
  | .region id ops false, Q, s, Y, i, a, w, h, hq => by
    refine wpIn_region ?_
    rw [List.range_eq_range', ← Array.length_toList, wpOpsIn_eq_wpListIn ops.toList 0 (by simp)]
    exact opsY_ok hT hS hC _ h hq
  | .seq x y, Q, s, Y, i, a, w, h, hq => by
    refine wpIn_seq (wpIn_mono (codeY_ok hT hS hC x h hq) fun e a' w' hp => ?_)
    obtain ⟨z, s', Y', i', hr', hq', hx⟩ := hp
    cases z with
    | norm => subst hx; exact codeY_ok hT hS hC y hr' hq'
    | exit id => subst hx; exact ⟨_, s', Y', i', hr', hq', rfl⟩
    | ret => subst hx; exact ⟨_, s', Y', i', hr', hq', rfl⟩
    | pan v => exact hx.elim
  | .cond c x y, Q, s, Y, i, a, w, h, hq => by
    simp only [codeY] at hq
    split at hq
    · rename_i b hb
      obtain ⟨wr, ρ, hrs, h2⟩ := h
      obtain ⟨e, -, -⟩ := (hrs.ev c).get (by rw [hb]; simp)
      rw [hb] at e
      refine wpIn_cond (t := b) e ?_
      split at hq
      · rename_i hbt; rw [if_pos hbt]; exact codeY_ok hT hS hC x ⟨wr, ρ, hrs, h2⟩ hq
      · rename_i hbt; rw [if_neg hbt]; exact codeY_ok hT hS hC y ⟨wr, ρ, hrs, h2⟩ hq
    · exact hq.elim
  | .block id c, Q, s, Y, i, a, w, h, hq => by
    refine wpIn_block (wpIn_mono (codeY_ok hT hS hC c h hq) fun e a' w' hp => ?_)
    obtain ⟨z, s', Y', i', hr', hq', hx⟩ := hp
    cases z with
    | norm => subst hx; exact ⟨_, s', Y', i', hr', hq', rfl⟩
    | exit k =>
      subst hx
      show if k = id then _ else _
      simp only [unY] at hq'
      by_cases hi : k = id
      · rw [if_pos hi]; rw [if_pos hi] at hq'; exact ⟨_, s', Y', i', hr', hq', rfl⟩
      · rw [if_neg hi]; rw [if_neg hi] at hq'; exact ⟨_, s', Y', i', hr', hq', rfl⟩
    | ret => subst hx; exact ⟨_, s', Y', i', hr', hq', rfl⟩
    | pan v => exact hx.elim
  | .loop c, Q, s, Y, i, a, w, h, hq => loopY_ok (fun h hq => codeY_ok hT hS hC c h hq) n h hq
  | .exit id, Q, s, Y, i, a, w, h, hq => wpIn_exit ⟨.exit id, s, Y, i, h, hq, rfl⟩
  | .ret, Q, s, Y, i, a, w, h, hq => wpIn_ret ⟨.ret, s, Y, i, h, hq, rfl⟩
  | .region _ _ true, Q, s, Y, i, a, w, h, hq => hq.elim
  | .rangeFunc .., Q, s, Y, i, a, w, h, hq => hq.elim
  | .scope _, Q, s, Y, i, a, w, h, hq => hq.elim
  | .goto _, Q, s, Y, i, a, w, h, hq => hq.elim
  | .refuse _, Q, s, Y, i, a, w, h, hq => hq.elim
def EndsY (ys : List (List AV)) (m0 : List Blk) (x : Ex) (s : St) (_ : List Tmp) (i : Option Nat) : Prop :=
  (x = .norm ∨ x = .ret) ∧ s.df = [] ∧ s.m.take m0.length = m0 ∧ (i = some ys.length ∨ i = none)
def initY (cap : List AV) (ntmps : Nat) (m : List Blk) : St := ⟨.undef :: cap ++ List.replicate (ntmps - (cap.length + 1)) (.tup []), m, []⟩
theorem sum_iter (hT : TOk P T) (hS : STok P S) {n : Nat} {f : FuncId} {fn : Func} {c : Code} (hf : P.funcs[f]? = some fn) (hb : fn.body = some c) (hn : (fn.name == "runtime.NumGoroutine") = false) (hres : fn.results = #[]) {it : It}
    (hg : ∀ cap env ys, it cap env = some ys → (∀ y ∈ ys, solidL y = true ∧ refsL y = []) ∧ ∃ cap0 θ m0, Laid env cap cap0 θ m0 ∧ codeY T S ys m0 n c (EndsY ys m0) (initY cap0 fn.ntmps m0) [0] (some 0)) : IterOk P f it := by
  intro cap env ys hit
  obtain ⟨hsol, cap0, θ, m0, hl, hcode⟩ := hg cap env ys hit
  refine ⟨hsol, fun ρ l J Jx w hcs hcr hinv hinvx hgrow hgrowx hyld h0 => ⟨fun args w => callFunc_enter hf hn (by rw [hb]; rfl) args, ?_⟩⟩
  have hC : YCtx P m0 (fun i => ρ (θ.getD i 0)) l ys J Jx := ⟨hsol, fun j W hj => hl.start (fun _ _ h => h) (hinv j W hj), fun W hj => hl.start (fun _ _ h => h) (hinvx W hj), hgrow, hgrowx, hyld⟩
  have hi := hC.inv 0 w h0
  have hcap : (cap.map (conc ρ)) = cap0.map (conc fun i => ρ (θ.getD i 0)) := by
    rw [hl.args, ← concT_eq, concT_ren, concT_eq]
    rfl
  have hcs0 : solidL cap0 = true := by rw [hl.args, solidL_ren] at hcs; exact hcs
  rw [hcap]
  have hstart : RY m0 (fun i => ρ (θ.getD i 0)) l J Jx (initY cap0 fn.ntmps m0) [0] (some 0) { tmps := (#[Value.func (.yield l) #[] #[]] ++ (cap0.map (conc fun i => ρ (θ.getD i 0))).toArray) ++ Array.replicate (fn.ntmps - (#[Value.func (.yield l) #[] #[]] ++ (cap0.map (conc fun i => ρ (θ.getD i 0))).toArray).size) Go.undef, defers := [] } w := by
    have h0' : JJ J Jx (some 0) w := h0
    refine ⟨w, fun i => ρ (θ.getD i 0), ?_, hi, h0', ?_⟩
    · refine ⟨hi, fun t => ?_, ?_, rfl, by simp [initY]⟩
      · cases t with
        | zero => exact .inl rfl
        | succ t =>
          simp only [initY, List.getD_eq_getElem?_getD, Array.getD_eq_getD_getElem?, Array.getElem?_append, List.cons_append, List.getElem?_cons_succ, List.getElem?_append, Array.size_append, List.size_toArray, List.length_map, List.length_cons, List.length_nil]
          by_cases ht : t < cap0.length
          · simp only [ht, if_true, List.getElem?_eq_getElem ht, Option.getD_some]
            have e1 : (#[Value.func (Fn.yield l) #[] #[]] ++ (cap0.map (conc fun i => ρ (θ.getD i 0))).toArray)[t + 1]? = some (conc (fun i => ρ (θ.getD i 0)) cap0[t]) := by
              rw [Array.getElem?_append]
              simp [ht]
            have hm : cap0[t] ∈ cap0 := List.getElem_mem ht
            refine .inr ⟨?_, okv_of_solid (mem_solidL.1 hcs0 _ hm), fun c hc => ?_⟩
            · rw [if_pos (by omega), if_neg (by omega)]
              simp [ht]
            · show m0[c]? ≠ none
              rw [getD_get (l := m0) (by rw [hl.len]; exact hl.aref c (mem_refsL.2 ⟨_, hm, hc⟩))]; simp
          · simp only [ht, if_false, List.getElem?_replicate, Array.getElem?_replicate]
            rw [if_neg (show ¬ t + 1 < 0 + 1 + cap0.length by omega)]
            by_cases h2 : t - cap0.length < fn.ntmps - (cap0.length + 1)
            · rw [if_pos h2, if_pos (show t + 1 - (0 + 1 + cap0.length) < fn.ntmps - (0 + 1 + cap0.length) by omega)]
              exact .inr ⟨rfl, rfl, by simp [refs, refsL]⟩
            · rw [if_neg h2]
              exact .inl rfl
      · simp only [initY, Array.size_append, List.size_toArray, List.length_map, Array.size_replicate, List.length_append, List.length_cons, List.length_replicate, List.length_nil]
        omega
    · intro t ht
      simp only [List.mem_singleton] at ht
      subst ht
      simp [Array.getD_eq_getD_getElem?, Array.getElem?_append]
  refine callsIn_of_wp hf hb trivial (wpIn_mono (codeY_ok hT hS hC c hstart hcode) fun e a' w' hp => ?_)
  · obtain ⟨x, s, Y, i, ⟨wr, ρ', hrs, hst, hj, -⟩, ⟨hx, hdf, htk, hi'⟩, hxe⟩ := hp
    have hd : a'.defers = [] := by rw [hrs.defers, hdf]; rfl
    have hgr := hst.grew hrs.inv htk
    have hres' : ∃ v, (results fn a'.tmps).run P w' = .ok v w' := by
      rw [results_eq, hres]
      exact ⟨.tuple #[], by simp⟩
    obtain ⟨v, hv⟩ := hres'
    have hend : (∃ v', Ending.returned v = .returned v') ∧ (J ys.length w' ∨ Jx w') := by
      refine ⟨⟨v, rfl⟩, ?_⟩
      rcases hi' with rfl | rfl
      · exact .inl (hC.grow _ _ _ hj hgr)
      · exact .inr (hC.growx _ _ hj hgr)
    rcases hx with rfl | rfl
    · subst hxe; exact ⟨hd, v, hv, hend⟩
    · subst hxe; exact ⟨hd, v, hv, hend⟩
end
end Go.X
end

section
namespace Go.X
section
variable {T : TT} {S : ST} {ys : List (List AV)} {m0 : List Blk} {n : Nat} {Q : Ex → PY} {s : St} {Y : List Tmp} {i : Option Nat}
@[simp] theorem codeY_skip : codeY T S ys m0 n .skip Q s Y i ↔ Q .norm s Y i := Iff.rfl
@[simp] theorem codeY_label {l} : codeY T S ys m0 n (.label l) Q s Y i ↔ Q .norm s Y i := Iff.rfl
@[simp] theorem codeY_region {id ops} : codeY T S ys m0 n (.region id ops false) Q s Y i ↔ opsY T S ys m0 ops (Q .norm) ops.toList s Y i := Iff.rfl
@[simp] theorem codeY_seq {a b} : codeY T S ys m0 n (.seq a b) Q s Y i ↔ codeY T S ys m0 n a (seqY (codeY T S ys m0 n b Q) Q) s Y i := Iff.rfl
@[simp] theorem codeY_cond {c x y} : codeY T S ys m0 n (.cond c x y) Q s Y i ↔ match evA s.ts c with
    | .bool b => if b = true then codeY T S ys m0 n x Q s Y i else codeY T S ys m0 n y Q s Y i
    | _ => False := Iff.rfl
@[simp] theorem codeY_block {id c} : codeY T S ys m0 n (.block id c) Q s Y i ↔ codeY T S ys m0 n c (unY id Q) s Y i := Iff.rfl
@[simp] theorem codeY_loop {c} : codeY T S ys m0 n (.loop c) Q s Y i ↔ loopY (codeY T S ys m0 n c) n Q s Y i := Iff.rfl
@[simp] theorem codeY_exit {id} : codeY T S ys m0 n (.exit id) Q s Y i ↔ Q (.exit id) s Y i := Iff.rfl
@[simp] theorem codeY_ret : codeY T S ys m0 n .ret Q s Y i ↔ Q .ret s Y i := Iff.rfl
@[simp] theorem loopY_succ {f : (Ex → PY) → PY} {k : Nat} : loopY f (k + 1) Q s Y i ↔ f (seqY (loopY f k Q) Q) s Y i := Iff.rfl
@[simp] theorem seqY_norm {f : PY} : seqY f Q .norm s Y i ↔ f s Y i := Iff.rfl
@[simp] theorem seqY_ret {f : PY} : seqY f Q .ret s Y i ↔ Q .ret s Y i := Iff.rfl
@[simp] theorem seqY_exit {f : PY} {k} : seqY f Q (.exit k) s Y i ↔ Q (.exit k) s Y i := Iff.rfl
@[simp] theorem unY_norm {id} : unY id Q .norm s Y i ↔ Q .norm s Y i := Iff.rfl
@[simp] theorem unY_ret {id} : unY id Q .ret s Y i ↔ Q .ret s Y i := Iff.rfl
@[simp] theorem unY_exit {id k} : unY id Q (.exit k) s Y i ↔ if k = id then Q .norm s Y i else Q (.exit k) s Y i := by
  show (if k = id then Q .norm else Q (.exit k)) s Y i ↔ _
  split <;> exact Iff.rfl
@[simp] theorem opsY_nil {ops : Array Oper} {q : PY} : opsY T S ys m0 ops q [] s Y i ↔ q s Y i := Iff.rfl
@[simp] theorem opsY_cons {ops : Array Oper} {q : PY} {d op ty pos af gu rest} : opsY T S ys m0 ops q (⟨d, op, ty, pos, af, gu⟩ :: rest) s Y i ↔ noDefer ⟨d, op, ty, pos, af, gu⟩ = true ∧ gateK T S ys m0 (opsY T S ys m0 ops q rest) ⟨d, op, ty, pos, af, gu⟩ s Y i (gateY ops s ⟨d, op, ty, pos, af, gu⟩) := Iff.rfl
@[simp] theorem gateY_free {ops : Array Oper} {d op ty pos af} : gateY ops s ⟨d, op, ty, pos, af, none⟩ = some true := rfl
@[simp] theorem gateY_some {ops : Array Oper} {d op ty pos af j want} : gateY ops s ⟨d, op, ty, pos, af, some (j, want)⟩ = match (ops[j]?).bind (·.dst) with
    | none => some false
    | some d => match s.ts.getD d .undef with
      | .bool b => some (b == want)
      | .undef => none
      | _ => some false := rfl
@[simp] theorem gateK_true {f : PY} {d op ty pos af gu} : gateK T S ys m0 f ⟨d, op, ty, pos, af, gu⟩ s Y i (some true) ↔ stepY T S ys m0 f ⟨d, op, ty, pos, af, gu⟩ s Y i (yldArgs Y ⟨d, op, ty, pos, af, gu⟩ s) := Iff.rfl
@[simp] theorem gateK_false {f : PY} {d op ty pos af gu} : gateK T S ys m0 f ⟨d, op, ty, pos, af, gu⟩ s Y i (some false) ↔ f (s.put d (.tup [])) (delY d Y) i := Iff.rfl
@[simp] theorem stepY_some {f : PY} {d op ty pos af gu vs} : stepY T S ys m0 f ⟨d, op, ty, pos, af, gu⟩ s Y i (some vs) ↔ yldK f ys m0 d s Y i vs := Iff.rfl
@[simp] theorem stepY_none {f : PY} {d op ty pos af gu} : stepY T S ys m0 f ⟨d, op, ty, pos, af, gu⟩ s Y i none ↔ if movY Y ⟨d, op, ty, pos, af, gu⟩ = true then f (s.put d .undef) (addY d s.ts.length Y) i else Good (doOp T S ⟨d, op, ty, pos, af, gu⟩ s) (nextY f (delY d Y) i) := Iff.rfl
@[simp] theorem yldK_some {f : PY} {d vs j} : yldK f ys m0 d s Y (some j) vs ↔ ys[j]? = some vs ∧ s.m.take m0.length = m0 ∧ s.df = [] ∧ f ((resetS m0 s).put d (.bool true)) (delY d Y) (some (j + 1)) ∧ f ((resetS m0 s).put d (.bool false)) (delY d Y) none := Iff.rfl
@[simp] theorem yldK_none {f : PY} {d vs} : yldK f ys m0 d s Y none vs ↔ False := Iff.rfl
@[simp] theorem nextY_norm {f : PY} {ts : List AV} {m : List Blk} {df : List (FuncId × List AV)} : nextY f Y i .norm ⟨ts, m, df⟩ ↔ f ⟨ts, m, df⟩ Y i := by simp [nextY]
end
section
variable {T : TT} {S : ST} {L : Nat → Option DM} {n : Nat} {ts : List AV} {m : List Blk} {df : List (FuncId × List AV)}
@[simp] theorem ThenG_norm {c : Code} {K : Ex → St → Prop} : ThenG T S L n c K .norm ⟨ts, m, df⟩ ↔ Good (exec T S L n c ⟨ts, m, df⟩) K := by simp [ThenG]
@[simp] theorem ThenR_norm {I : FuncId → Option It} {g : Operand} {ps : Array Tmp} {asg bd : Code} {Q : Ex → St → Prop} : ThenR T S I L n g ps asg bd Q .norm ⟨ts, m, df⟩ ↔ RangeG T S I L n g ps asg bd Q ⟨ts, m, df⟩ := by simp [ThenR]
@[simp] theorem RoundK1_norm {bd : Code} {K : Ex → St → Prop} : RoundK1 T S L n bd K .norm ⟨ts, m, df⟩ ↔ df = [] ∧ Good (exec T S L n bd ⟨ts, m, df⟩) K := by simp [RoundK1]
@[simp] theorem RoundK2_norm {f : List Blk → Prop} {caps : List Nat} {m0 : List Blk} {Q : Ex → List Blk → Prop} : RoundK2 f caps m0 Q .norm ⟨ts, m, df⟩ ↔ df = [] ∧ (∀ b ∈ caps, m[b]? = m0[b]?) ∧ f m := Iff.rfl
@[simp] theorem RoundK2_ret {f : List Blk → Prop} {caps : List Nat} {m0 : List Blk} {Q : Ex → List Blk → Prop} : RoundK2 f caps m0 Q .ret ⟨ts, m, df⟩ ↔ df = [] ∧ (∀ b ∈ caps, m[b]? = m0[b]?) ∧ Q .ret m := Iff.rfl
variable {ps : List Tmp} {asg bd : Code} {caps : List Nat} {m0 : List Blk} {Q : Ex → List Blk → Prop}
@[simp] theorem RoundsG_nil : RoundsG T S L n ps asg bd ts caps m0 Q [] m ↔ Q .norm m := Iff.rfl
@[simp] theorem RoundsG_cons {y ys} : RoundsG T S L n ps asg bd ts caps m0 Q (y :: ys) m ↔ Good (exec T S L n asg ⟨setps ps y ts, m, []⟩) (RoundK1 T S L n bd (RoundK2 (RoundsG T S L n ps asg bd ts caps m0 Q ys) caps m0 Q)) := Iff.rfl
end
attribute [simp] yldArgs movY addY delY noDefer resetS initY EndsY RangeG setps AfterR
def itOf (l : List (FuncId × It)) : FuncId → Option It := fun f => (l.find? fun p => p.1 == f).map (·.2)
theorem itOf_ok {P : Program} {l : List (FuncId × It)} (h : ∀ p ∈ l, IterOk P p.1 p.2) : ∀ f it, itOf l f = some it → IterOk P f it := by
  intro f g hg
  unfold itOf at hg
  simp only [Option.map_eq_some_iff] at hg
  obtain ⟨p, hp, rfl⟩ := hg
  have h1 := List.find?_some hp
  simp only [beq_iff_eq] at h1
  subst h1
  exact h p (List.mem_of_find?_eq_some hp)
@[simp] theorem itOf_cons {f k : FuncId} {g : It} {l : List (FuncId × It)} : itOf ((k, g) :: l) f = if k = f then some g else itOf l f := by
  unfold itOf
  by_cases h : k = f
  · subst h; simp
  · have : (k == f) = false := by simpa using h
    simp [List.find?, this, h]
end Go.X
end
