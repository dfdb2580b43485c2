/- Regions that draw their order; from bodies to summaries. -/
import Derived.Test.YtpojeehijepmhaaGreatGA
import Derived.OrdersHeld
import Derived.Recover
import Derived.Laws.Externs
import Derived.KernelRfl

section
namespace Go.X
def maskU (M : Array Nat) (o : Oper) : Nat := o.after.foldl (fun s e => if Region.binds .any e then s ||| 2 ^ e.on ||| M.getD e.on 0 else s) 0
def chkDraw (ops : Array Oper) (k : Nat) (x : List Nat) : Bool :=
  let M := Region.before ops
  decide (k ≤ ops.size) && x.all (fun f => decide (f < k)) && ops.toList.zipIdx.all fun (o, i) =>
    o.after.all (fun e => !Region.binds .any e || decide (e.on < i)) &&
    M.getD i 0 == maskU M o &&
    (List.range i).all fun j => ((M.getD i 0).testBit j || (decide (i < k) && match ops[j]? with | some p => Oper.apart ops p o | none => false) || (x.contains j && (decide (k ≤ i) || match ops[j]? with | some p => p.dst.isNone | none => false)))
structure Chk (ops : Array Oper) (k : Nat) (x : List Nat) (M : Array Nat) : Prop where
  le : k ≤ ops.size
  back : ∀ i o, ops[i]? = some o → ∀ e ∈ o.after, Region.binds .any e = true → e.on < i
  mask : ∀ i o, ops[i]? = some o → M.getD i 0 = maskU M o
  ord : ∀ i o, ops[i]? = some o → ∀ j p, j < i → ops[j]? = some p → (M.getD i 0).testBit j = true ∨ (i < k ∧ Oper.apart ops p o = true) ∨ (j ∈ x ∧ (k ≤ i ∨ p.dst = none))
  ex : ∀ f, f ∈ x → f < k
theorem chk_spec {ops : Array Oper} {k : Nat} {x : List Nat} (h : chkDraw ops k x = true) : Chk ops k x (Region.before ops) := by
  simp only [chkDraw, Bool.and_eq_true, decide_eq_true_eq] at h
  obtain ⟨⟨h1, hx⟩, h2⟩ := h
  rw [List.all_eq_true] at h2
  simp only [Bool.and_eq_true, List.all_eq_true] at h2
  have key : ∀ i o, ops[i]? = some o → (o, i) ∈ ops.toList.zipIdx := by
    intro i o ho
    rw [List.mem_zipIdx_iff_getElem?]
    simpa using ho
  refine ⟨h1, fun i o ho e he hb => ?_, fun i o ho => ?_, fun i o ho j p hj hp => ?_, fun f hf => ?_⟩
  · have := (h2 _ (key i o ho)).1.1
    rw [Array.all_eq_true_iff_forall_mem] at this
    have := this e he
    simpa [hb] using this
  · have := (h2 _ (key i o ho)).1.2
    simpa using this
  · have := (h2 _ (key i o ho)).2 j (by simpa using hj)
    rw [hp] at this
    simp only [Bool.or_eq_true, Bool.and_eq_true, decide_eq_true_eq, List.contains_iff_mem, Option.isNone_iff_eq_none] at this
    rcases this with (h | h) | h
    · exact .inl h
    · exact .inr (.inl h)
    · exact .inr (.inr h)
  · simpa using List.all_eq_true.1 hx f hf
theorem maskU_bit {M : Array Nat} {o : Oper} {j : Nat} (h : (maskU M o).testBit j = true) : ∃ e ∈ o.after, Region.binds .any e = true ∧ (e.on = j ∨ (M.getD e.on 0).testBit j = true) := by
  unfold maskU at h
  rw [← Array.foldl_toList] at h
  have key : ∀ (l : List Edge) (s : Nat), (l.foldl (fun s e => if Region.binds .any e then s ||| 2 ^ e.on ||| M.getD e.on 0 else s) s).testBit j = true →
      s.testBit j = true ∨ ∃ e ∈ l, Region.binds .any e = true ∧ (e.on = j ∨ (M.getD e.on 0).testBit j = true) := by
    intro l
    induction l with
    | nil => exact fun s h => .inl h
    | cons e l ih =>
      intro s h
      rcases ih _ h with h | ⟨e', he', h⟩
      · dsimp only at h
        by_cases hb : Region.binds .any e = true
        · rw [if_pos hb] at h
          simp only [Nat.testBit_or, Bool.or_eq_true, Nat.testBit_two_pow, decide_eq_true_eq] at h
          rcases h with (h | h) | h
          · exact .inl h
          · exact .inr ⟨e, by simp, hb, .inl h⟩
          · exact .inr ⟨e, by simp, hb, .inr h⟩
        · rw [if_neg hb] at h; exact .inl h
      · exact .inr ⟨e', by simp [he'], h⟩
  rcases key _ _ h with h | ⟨e, he, h⟩
  · simp at h
  · exact ⟨e, by simpa using he, h⟩
def Ls (listed : Array Bool) (i : Nat) : Prop := listed.getD i false = true
theorem closure {ops : Array Oper} {k : Nat} {xf : List Nat} {M : Array Nat} (hc : Chk ops k xf M) {listed : Array Bool} (hcl : ∀ i o, ops[i]? = some o → Ls listed i → ∀ e ∈ o.after, Region.binds .any e = true → Ls listed e.on) :
    ∀ (i : Nat) (o : Oper), ops[i]? = some o → (∀ e ∈ o.after, Region.binds .any e = true → Ls listed e.on) → ∀ j, (M.getD i 0).testBit j = true → Ls listed j := by
  intro i
  induction i using Nat.strongRecOn with
  | _ i ih =>
    intro o ho hall j hj
    rw [hc.mask i o ho] at hj
    obtain ⟨e, he, hb, h⟩ := maskU_bit hj
    have hle := hall e he hb
    rcases h with rfl | h
    · exact hle
    · have hlt := hc.back i o ho e he hb
      have hi : i < ops.size := (Array.getElem?_eq_some_iff.1 ho).1
      have hp : ops[e.on]? = some ops[e.on] := Array.getElem?_eq_getElem (by omega)
      exact ih e.on hlt _ hp (hcl _ _ hp hle) j h
def evF (g : Tmp → AV) : Operand → AV
  | .tmp t => g t
  | .const v => absV v
  | .global _ => .undef
  | .func f => .fn f []
theorem evA_eq (ts : List AV) : evA ts = evF fun t => ts.getD t .undef := by funext x; cases x <;> rfl
theorem opA_local {T : TT} {mem mem' : Mem} {nxt : Nat} {ev ev' : Operand → AV} {op : Op} (he : ∀ x ∈ op.operands, ev x = ev' x) (hm : ∀ x ∈ op.operands, ∀ b ∈ refs (ev x), mem b = mem' b) : opA T mem nxt ev op = opA T mem' nxt ev' op := by
  have hp : ∀ parts : Array (Nat × Operand), (∀ p ∈ parts.toList, ev p.2 = ev' p.2) → (parts.toList.map fun p => (p.1, ev p.2)) = parts.toList.map fun p => (p.1, ev' p.2) := fun parts h => List.map_congr_left fun p hp => by rw [h p hp]
  have ho : ∀ (p : Option Operand), (∀ x, p = some x → ev x = ev' x) → p.map ev = p.map ev' := by
    intro p h; cases p with | none => rfl | some x => simp [h x rfl]
  have ha : ∀ args : Array Operand, (∀ x ∈ args.toList, ev x = ev' x) → args.toList.map ev = args.toList.map ev' := fun args h => List.map_congr_left h
  cases op with
  | move x => simp only [opA]; rw [he x (by simp [Op.operands])]
  | assign x => simp only [opA]; rw [he x (by simp [Op.operands])]
  | pick c a b => simp only [opA]; rw [he c (by simp [Op.operands]), he a (by simp [Op.operands]), he b (by simp [Op.operands])]
  | alloc e => rfl
  | box e x => simp only [opA]; rw [he x (by simp [Op.operands])]
  | build t parts => simp only [opA]; rw [hp parts fun p hp => he p.2 (by simp only [Op.operands, List.mem_toArray, List.mem_map]; exact ⟨p, hp, rfl⟩)]
  | buildSlice t n parts => simp only [opA]; rw [hp parts fun p hp => he p.2 (by simp only [Op.operands, List.mem_toArray, List.mem_map]; exact ⟨p, hp, rfl⟩)]
  | load t a =>
    have h1 := he a (by simp [Op.operands])
    have h2 := hm a (by simp [Op.operands])
    have : loadA T mem t (ev a) = loadA T mem' t (ev' a) := by
      rw [← h1]
      cases hv : ev a with
      | ptr b o => simp only [loadA]; rw [h2 _ (by rw [hv]; simp [refs])]
      | _ => rfl
    simp only [opA, this]
  | store t a x =>
    have h1 := he a (by simp [Op.operands])
    have h2 := hm a (by simp [Op.operands])
    have h3 := he x (by simp [Op.operands])
    simp only [opA]
    rw [← h1, ← h3]
    cases hv : ev a with
    | ptr b o =>
      have h4 := h2 b (by rw [hv]; simp [refs])
      cases T t with
      | none => rfl
      | some i => simp only [h4]
    | _ => rfl
  | nilCheck x => simp only [opA]; rw [he x (by simp [Op.operands])]
  | binOp op t x y t' => simp only [opA]; rw [he x (by simp [Op.operands]), he y (by simp [Op.operands])]
  | unOp op t x => simp only [opA]; rw [he x (by simp [Op.operands])]
  | convert s d x => simp only [opA]; rw [he x (by simp [Op.operands])]
  | makeInterface t x => simp only [opA]; rw [he x (by simp [Op.operands])]
  | makeFunc f first cap =>
    cases f with
    | func f =>
      simp only [opA]
      rw [ha cap fun x hx => he x (by simp only [Op.operands, Array.mem_append]; exact .inr (by simpa using hx)), ha first fun x hx => he x (by simp only [Op.operands, Array.mem_append]; exact .inl (by simpa using hx))]
    | _ => rfl
  | makeSlice t l c => simp only [opA]; rw [he l (by simp [Op.operands]), he c (by simp [Op.operands])]
  | slice t x lo hi mx =>
    cases mx with
    | some _ => rfl
    | none =>
      simp only [opA]
      rw [he x (by simp [Op.operands]), ho lo fun y hy => he y (by simp [Op.operands, hy]), ho hi fun y hy => he y (by simp [Op.operands, hy])]
  | fieldAddr s x f => simp only [opA]; rw [he x (by simp [Op.operands])]
  | field s x f => simp only [opA]; rw [he x (by simp [Op.operands])]
  | indexAddr t x ix => simp only [opA]; rw [he x (by simp [Op.operands]), he ix (by simp [Op.operands])]
  | index t x ix => simp only [opA]; rw [he x (by simp [Op.operands]), he ix (by simp [Op.operands])]
  | extract x i => simp only [opA]; rw [he x (by simp [Op.operands])]
  | typeAssert x xt t ok => simp only [opA]; rw [he x (by simp [Op.operands])]
  | panic x => simp only [opA]; rw [he x (by simp [Op.operands])]
  | call c =>
    obtain ⟨callee, args, at_⟩ := c
    have hargs : ∀ x ∈ args, ev x = ev' x := fun x hx => he x (by simp only [Op.operands, Call.operands, Array.mem_append]; exact .inr hx)
    have e1 : args.toList.map ev = args.toList.map ev' := ha args fun x hx => hargs x (by simpa using hx)
    have e2 : (args[0]?).map ev = (args[0]?).map ev' := by
      cases h : args[0]? with
      | none => rfl
      | some x => simp [hargs x (Array.mem_of_getElem? h)]
    cases callee with
    | builtin b => cases b <;> first | rfl | simp only [opA, e1, e2]
    | value f => rfl
    | invoke r m => rfl
  | _ => rfl
theorem qopsA_trace {T : TT} {S : ST} {ops : Array Oper} {Q : Ex → St → Prop} : ∀ (k : Nat) (l : List Oper) (s : St), k ≤ l.length → Good (qopsA T S ops k l s) Q →
    ∃ (st : Nat → St) (r : Nat → AV × List Blk), st 0 = s ∧ (∀ i, i < k → ∃ o, l[i]? = some o ∧ qStep T S ops o (st i) = some (r i) ∧ (∀ b ∈ refs (r i).1, b < (st i).m.length + (r i).2.length) ∧
      st (i + 1) = St.put { st i with m := (st i).m ++ (r i).2 } o.dst (r i).1) ∧ Good (opsA T S ops (l.drop k) (st k)) Q
  | 0, l, s, _, hg => ⟨fun _ => s, fun _ => (.undef, []), rfl, fun i hi => by omega, by
      unfold qopsA at hg
      exact hg⟩
  | k + 1, [], s, hk, hg => by simp at hk
  | k + 1, o :: rest, s, hk, hg => by
    simp only [qopsA] at hg
    split at hg
    · rename_i v nw hq
      split at hg
      · rename_i hr
        obtain ⟨st, r, h0, h1, h2⟩ := qopsA_trace k rest _ (by simpa using hk) hg
        refine ⟨fun i => match i with | 0 => s | i + 1 => st i, fun i => match i with | 0 => (v, nw) | i + 1 => r i, rfl, ?_, by simpa using h2⟩
        intro i hi
        cases i with
        | zero =>
          refine ⟨o, rfl, hq, ?_, h0⟩
          intro b hb
          rw [List.all_eq_true] at hr
          simpa using hr b hb
        | succ i =>
          obtain ⟨o', a1, a2, a3, a4⟩ := h1 i (by omega)
          exact ⟨o', by simpa using a1, a2, a3, a4⟩
      · exact hg.elim
    · exact hg.elim
section
variable (s : St) (r : Nat → AV × List Blk) (dst : Nat → Option Tmp) (len : Nat → Nat) (listed : Array Bool)
def tsU : Nat → Tmp → AV
  | 0, t => s.ts.getD t .undef
  | j + 1, t => if listed.getD j false = true ∧ dst j = some t ∧ t < s.ts.length then (r j).1 else tsU j t
def memU : Nat → Mem
  | 0, b => s.m[b]?
  | j + 1, b => if listed.getD j false = true ∧ len j ≤ b ∧ b < len j + (r j).2.length then (r j).2[b - len j]? else memU j b
variable {s r dst len listed}
theorem tsU_stay {t : Tmp} {j j' : Nat} (hj : j ≤ j') (h : ∀ i, j ≤ i → i < j' → dst i = some t → ¬ Ls listed i) : tsU s r dst listed j' t = tsU s r dst listed j t := by
  induction j' with
  | zero => have : j = 0 := by omega
            subst this; rfl
  | succ n ih =>
    by_cases hn : j = n + 1
    · subst hn; rfl
    · rw [tsU, if_neg]
      · exact ih (by omega) fun i h1 h2 => h i h1 (by omega)
      · rintro ⟨h1, h2, -⟩
        exact h n (by omega) (by omega) h2 h1
theorem memU_stay {b j j' : Nat} (hj : j ≤ j') (h : ∀ i, j ≤ i → i < j' → Ls listed i → ¬ (len i ≤ b ∧ b < len i + (r i).2.length)) : memU s r len listed j' b = memU s r len listed j b := by
  induction j' with
  | zero => have : j = 0 := by omega
            subst this; rfl
  | succ n ih =>
    by_cases hn : j = n + 1
    · subst hn; rfl
    · rw [memU, if_neg]
      · exact ih (by omega) fun i h1 h2 => h i h1 (by omega)
      · rintro ⟨h1, h2⟩
        exact h n (by omega) (by omega) h1 h2
end
theorem unlisted_iff {listed : Array Bool} {n i : Nat} (hs : listed.size = n) : listed.getD i true = false ↔ i < n ∧ ¬ Ls listed i := by
  unfold Ls
  by_cases hi : i < n
  · have : i < listed.size := by omega
    simp [hi, this]
  · have : ¬ i < listed.size := by omega
    simp [hi, this]
theorem Ls_set {listed : Array Bool} {n i j : Nat} (hs : listed.size = n) (hi : i < n) : Ls (listed.setIfInBounds i true) j ↔ j = i ∨ Ls listed j := by
  unfold Ls
  by_cases h : j = i
  · subst h
    have : j < listed.size := by omega
    simp [this]
  · rw [getD_set_ne false (fun e => h e.symm)]; simp [h]
section
variable {P : Program} {D : Nat → Prop} {ρ0 : Nat → Nat} {w0 : World} {T : TT} {S : ST} {ops : Array Oper} {k : Nat} {xf : List Nat} {Q : Ex → St → Prop} {s : St} {st : Nat → St} {r : Nat → AV × List Blk}
def dstOf (ops : Array Oper) (i : Nat) : Option Tmp := (ops[i]?).bind (·.dst)
structure Trace (T : TT) (S : ST) (ops : Array Oper) (k : Nat) (s : St) (st : Nat → St) (r : Nat → AV × List Blk) : Prop where
  zero : st 0 = s
  step : ∀ i, i < k → ∃ o, ops[i]? = some o ∧ qStep T S ops o (st i) = some (r i) ∧ (∀ b ∈ refs (r i).1, b < (st i).m.length + (r i).2.length) ∧ st (i + 1) = St.put { st i with m := (st i).m ++ (r i).2 } o.dst (r i).1
theorem St.put_m (s : St) (d : Option Tmp) (v : AV) : (s.put d v).m = s.m := by cases d <;> rfl
theorem St.put_df (s : St) (d : Option Tmp) (v : AV) : (s.put d v).df = s.df := by cases d <;> rfl
theorem St.put_len (s : St) (d : Option Tmp) (v : AV) : (s.put d v).ts.length = s.ts.length := by cases d <;> simp [St.put]
theorem St.put_ts (s : St) (d : Option Tmp) (v : AV) (t : Tmp) : (s.put d v).ts.getD t .undef = if d = some t ∧ t < s.ts.length then v else s.ts.getD t .undef := by
  cases d with
  | none => simp [St.put]
  | some d =>
    simp only [St.put, List.getD_eq_getElem?_getD, List.getElem?_set, Option.some.injEq]
    by_cases h : d = t
    · subst h
      by_cases hl : d < s.ts.length
      · simp [hl]
      · simp [hl]
    · simp [h]
section
variable (ht : Trace T S ops k s st r)
include ht
theorem Trace.m_succ {i : Nat} (hi : i < k) : (st (i + 1)).m = (st i).m ++ (r i).2 := by
  obtain ⟨o, -, -, -, h⟩ := ht.step i hi
  rw [h, St.put_m]
theorem Trace.len_succ {i : Nat} (hi : i < k) : (st (i + 1)).m.length = (st i).m.length + (r i).2.length := by rw [ht.m_succ hi, List.length_append]
theorem Trace.len_mono {i j : Nat} (hij : i ≤ j) (hj : j ≤ k) : (st i).m.length ≤ (st j).m.length := by
  induction j with
  | zero => have : i = 0 := by omega
            subst this; exact Nat.le_refl _
  | succ n ih =>
    by_cases h : i = n + 1
    · subst h; exact Nat.le_refl _
    · have := ih (by omega) (by omega)
      rw [ht.len_succ (by omega)]; omega
theorem Trace.df {i : Nat} (hi : i ≤ k) : (st i).df = s.df := by
  induction i with
  | zero => rw [ht.zero]
  | succ n ih =>
    obtain ⟨o, -, -, -, h⟩ := ht.step n (by omega)
    rw [h, St.put_df]; exact ih (by omega)
theorem Trace.tslen {i : Nat} (hi : i ≤ k) : (st i).ts.length = s.ts.length := by
  induction i with
  | zero => rw [ht.zero]
  | succ n ih =>
    obtain ⟨o, -, -, -, h⟩ := ht.step n (by omega)
    rw [h, St.put_len]; exact ih (by omega)
theorem Trace.ts_succ {i : Nat} (hi : i < k) (t : Tmp) : (st (i + 1)).ts.getD t .undef = if dstOf ops i = some t ∧ t < s.ts.length then (r i).1 else (st i).ts.getD t .undef := by
  obtain ⟨o, ho, -, -, h⟩ := ht.step i hi
  have := ht.tslen (i := i) (by omega)
  rw [h, St.put_ts]
  simp only [dstOf, ho, Option.bind_some, this]
theorem Trace.wf (h0 : ∀ t, ∀ b ∈ refs (s.ts.getD t .undef), b < s.m.length) {i : Nat} (hi : i ≤ k) : ∀ t, ∀ b ∈ refs ((st i).ts.getD t .undef), b < (st i).m.length := by
  induction i with
  | zero => rw [ht.zero]; exact h0
  | succ n ih =>
    intro t b hb
    rw [ht.ts_succ (by omega)] at hb
    rw [ht.len_succ (by omega)]
    split at hb
    · obtain ⟨o, -, -, h, -⟩ := ht.step n (by omega)
      exact h b hb
    · have := ih (by omega) t b hb; omega
theorem Trace.tsU_eq {listed : Array Bool} {t : Tmp} {j : Nat} (hj : j ≤ k) (h : ∀ i, i < j → dstOf ops i = some t → Ls listed i) : tsU s r (dstOf ops) listed j t = (st j).ts.getD t .undef := by
  induction j with
  | zero => rw [ht.zero]; rfl
  | succ n ih =>
    rw [ht.ts_succ (by omega), tsU]
    by_cases hd : dstOf ops n = some t ∧ t < s.ts.length
    · rw [if_pos hd, if_pos ⟨h n (by omega) hd.1, hd⟩]
    · rw [if_neg hd, if_neg fun q => hd q.2]
      exact ih (by omega) fun i hi => h i (by omega)
theorem Trace.memU_far {listed : Array Bool} {b j : Nat} (hj : j ≤ k) (hb : (st j).m.length ≤ b) : memU s r (fun i => (st i).m.length) listed j b = none := by
  induction j with
  | zero =>
    rw [ht.zero] at hb
    exact List.getElem?_eq_none hb
  | succ n ih =>
    have hl := ht.len_succ (i := n) (by omega)
    rw [memU, if_neg (by omega)]
    exact ih (by omega) (by omega)
theorem Trace.memU_near {listed : Array Bool} {b j : Nat} (hj : j ≤ k) (hb : b < (st j).m.length) : memU s r (fun i => (st i).m.length) listed k b = memU s r (fun i => (st i).m.length) listed j b :=
  memU_stay hj fun i h1 h2 _ => by have := ht.len_mono h1 (by omega); omega
theorem Trace.memU_eq {listed : Array Bool} {b j : Nat} (hj : j ≤ k) (hb : memU s r (fun i => (st i).m.length) listed j b ≠ none) : memU s r (fun i => (st i).m.length) listed j b = (st j).m[b]? := by
  induction j with
  | zero => rw [ht.zero]; rfl
  | succ n ih =>
    have hl := ht.len_succ (i := n) (by omega)
    rw [ht.m_succ (by omega)]
    rw [memU] at hb ⊢
    split
    · rename_i hc
      rw [List.getElem?_append_right (by omega)]
    · rename_i hc
      rw [if_neg hc] at hb
      have hlt : b < (st n).m.length := by
        rcases Nat.lt_or_ge b (st n).m.length with h' | h'
        · exact h'
        · exact absurd (ht.memU_far (listed := listed) (j := n) (by omega) h') hb
      rw [List.getElem?_append_left hlt]
      exact ih (by omega) hb
theorem Trace.memU_all {listed : Array Bool} {j : Nat} (hj : j ≤ k) (hl : ∀ i, i < j → Ls listed i) (b : Nat) : memU s r (fun i => (st i).m.length) listed j b = (st j).m[b]? := by
  induction j with
  | zero => rw [ht.zero]; rfl
  | succ n ih =>
    have hln := ht.len_succ (i := n) (by omega)
    rw [ht.m_succ (by omega), memU]
    by_cases hc : (st n).m.length ≤ b ∧ b < (st n).m.length + (r n).2.length
    · rw [if_pos ⟨hl n (by omega), hc⟩, List.getElem?_append_right hc.1]
    · rw [if_neg fun q => hc q.2, ih (by omega) fun i hi => hl i (by omega)]
      by_cases hb : b < (st n).m.length
      · rw [List.getElem?_append_left hb]
      · rw [List.getElem?_eq_none (by omega), List.getElem?_eq_none (by rw [List.length_append]; omega)]
end
structure SInv (D : Nat → Prop) (ρ0 : Nat → Nat) (w0 : World) (ops : Array Oper) (k : Nat) (s : St) (st : Nat → St) (r : Nat → AV × List Blk) (ρ : Nat → Nat) (listed : Array Bool) (a : Act) (w : World) : Prop where
  size : listed.size = ops.size
  closed : ∀ i o, ops[i]? = some o → Ls listed i → ∀ e ∈ o.after, Region.binds .any e = true → Ls listed e.on
  nosuf : ∀ i, Ls listed i → i < k
  inv : Inv D ρ0 w0 ρ (memU s r (fun i => (st i).m.length) listed k) w
  tmps : ∀ t, SR ρ (memU s r (fun i => (st i).m.length) listed k) (tsU s r (dstOf ops) listed k t) (a.tmps.getD t Go.undef)
  sz : a.tmps.size = s.ts.length
  defers : a.defers = s.df.map fun d => { target := .fn (.func d.1) (concT ρ d.2).toArray, args := #[] }
  dref : ∀ d ∈ s.df, solidL d.2 = true ∧ ∀ c ∈ refsL d.2, memU s r (fun i => (st i).m.length) listed k c ≠ none
theorem suffix_ok (hT : TOk P T) (hS : STok P S) (hc : Chk ops k xf (Region.before ops)) : ∀ (fuel i : Nat) {s' : St} {ρ : Nat → Nat} {listed : Array Bool} {a : Act} {w : World}, k ≤ i → i + fuel = ops.size → listed.size = ops.size → (∀ j, Ls listed j ↔ j < i) →
    RS D ρ0 w0 ρ s' a w → Good (opsA T S ops (ops.toList.drop i) s') Q → wpAny P .any ops (Post D ρ0 w0 Q) fuel listed a w := by
  intro fuel
  induction fuel with
  | zero =>
    intro i s' ρ listed a w hk hi hs hl h hg
    refine ⟨?_, ?_⟩
    · apply List.eq_nil_iff_forall_not_mem.2
      intro j hj
      obtain ⟨hj1, o, ho, -⟩ := mem_ready.1 hj
      have := (unlisted_iff hs).1 hj1
      exact this.2 ((hl j).2 (by omega))
    · rw [List.drop_of_length_le (by simp; omega)] at hg
      exact ⟨.norm, s', ρ, h, hg, rfl⟩
  | succ fuel ih =>
    intro i s' ρ listed a w hk hi hs hl h hg
    have hin : i < ops.size := by omega
    have ho : ops[i]? = some ops[i] := Array.getElem?_eq_getElem hin
    have hready : i ∈ Region.ready .any ops listed := by
      rw [mem_ready]
      exact ⟨(unlisted_iff hs).2 ⟨hin, fun q => by have := (hl i).1 q; omega⟩, _, ho, fun e he hb => (hl _).2 (hc.back i _ ho e he hb)⟩
    refine ⟨fun hnil => by rw [hnil] at hready; simp at hready, fun j hj => ?_⟩
    obtain ⟨hj1, o, hjo, hjall⟩ := mem_ready.1 hj
    obtain ⟨hjn, hjl⟩ := (unlisted_iff hs).1 hj1
    have hcl : ∀ i o, ops[i]? = some o → Ls listed i → ∀ e ∈ o.after, Region.binds .any e = true → Ls listed e.on := by
      intro i' o' ho' hi' e he hb
      exact (hl _).2 (by have := hc.back i' o' ho' e he hb; have := (hl i').1 hi'; omega)
    have hji : j = i := by
      have h1 : i ≤ j := by
        rcases Nat.lt_or_ge j i with h' | h'
        · exact absurd ((hl j).2 h') hjl
        · exact h'
      rcases Nat.lt_or_ge i j with h' | h'
      · have hb := (hc.ord j o hjo i _ h' ho).resolve_right (fun q => by
        rcases q with q | q
        · omega
        · have := hc.ex i q.1; omega)
        have := closure hc hcl j o hjo hjall i hb
        have := (hl i).1 this
        omega
      · omega
    subst hji
    have hlist : ops.toList.drop j = ops[j] :: ops.toList.drop (j + 1) := by
      rw [List.drop_eq_getElem_cons (by simpa using hin)]; simp
    rw [hlist] at hg
    have hl' : ∀ i, Ls (listed.setIfInBounds j true) i ↔ i < j + 1 := by
      intro i
      rw [Ls_set hs hin, hl i]; omega
    have hs' : (listed.setIfInBounds j true).size = ops.size := by simpa using hs
    have cont : ∀ {s'' : St} {ρ' : Nat → Nat} {a' : Act} {w' : World}, RS D ρ0 w0 ρ' s'' a' w' → Good (opsA T S ops (ops.toList.drop (j + 1)) s'') Q → wpAny P .any ops (Post D ρ0 w0 Q) fuel (listed.setIfInBounds j true) a' w' :=
      fun h' hg' => ih (j + 1) (by omega) (by omega) hs' hl' h' hg'
    have run : Good ((doOp T S ops[j] s').bind (opsA T S ops (ops.toList.drop (j + 1)))) Q → ops[j].wp P a w (wpAny P .any ops (Post D ρ0 w0 Q) fuel (listed.setIfInBounds j true)) (Post D ρ0 w0 Q) := by
      intro hg
      refine doOp_ok hT hS h hg.bind (fun s' ρ' a' w' h' hq _ _ => cont h' hq) (fun e a' w' hp => ?_)
      obtain ⟨x, s', ρ', h1, h2, h3⟩ := hp
      cases x with
      | norm => exact h2.elim
      | exit id => exact ⟨_, s', ρ', h1, h2, h3⟩
      | ret => exact ⟨_, s', ρ', h1, h2, h3⟩
      | pan v => exact ⟨_, s', ρ', h1, h2, h3⟩
    unfold wpOp
    rw [ho]
    simp only []
    unfold opsA at hg
    split at hg
    · rename_i hgd
      rw [if_pos (by simp [Region.wanted, hgd])]
      exact .inl (run hg)
    · rename_i g want hgd
      split at hg
      · rename_i hd
        have : yielded ops a.tmps g = none := by unfold yielded; rw [hd]; rfl
        rw [if_neg (by simp [Region.wanted, hgd, this])]
        exact cont (h.skip _) hg
      · rename_i d hd
        obtain ⟨y1, y2⟩ := yielded_ok h hd
        split at hg
        · rename_i b hb
          have hy := y1 b hb
          split at hg
          · rename_i hbw
            rw [if_pos (by simp [Region.wanted, hgd, hy, hbw])]
            exact .inl (run hg)
          · rename_i hbw
            rw [if_neg (by simp [Region.wanted, hgd, hy, hbw])]
            exact cont (h.skip _) hg
        · exact hg.elim
        · rename_i hnb hnu
          have hy := y2 hnu hnb
          rw [if_neg (by simp [Region.wanted, hgd, hy])]
          exact cont (h.skip _) hg
theorem mem_looksAt {o : Oper} {t : Tmp} (h : Operand.tmp t ∈ o.op.operands) : t ∈ o.looksAt ops := by
  unfold Oper.looksAt
  rw [List.mem_append]
  left
  rw [List.mem_filterMap]
  exact ⟨.tmp t, by simpa using h, rfl⟩
theorem mem_looksAt_guard {o : Oper} {g : Nat} {want : Bool} {t : Tmp} (h : o.guard = some (g, want)) (ht : (ops[g]?).bind (·.dst) = some t) : t ∈ o.looksAt ops := by
  unfold Oper.looksAt
  rw [List.mem_append]
  right
  simp [h, ht]
theorem SInv.closureAt (hc : Chk ops k xf (Region.before ops)) {ρ : Nat → Nat} {listed : Array Bool} {a : Act} {w : World} (h : SInv D ρ0 w0 ops k s st r ρ listed a w) {i : Nat} {o : Oper} (ho : ops[i]? = some o)
    (hall : ∀ e ∈ o.after, Region.binds .any e = true → Ls listed e.on) {j : Nat} (hj : ((Region.before ops).getD i 0).testBit j = true) : Ls listed j := closure hc h.closed i o ho hall j hj
theorem before_of_listed (hc : Chk ops k xf (Region.before ops)) {ρ : Nat → Nat} {listed : Array Bool} {a : Act} {w : World} (h : SInv D ρ0 w0 ops k s st r ρ listed a w) {i j : Nat} (hj : Ls listed j) (hb : ((Region.before ops).getD j 0).testBit i = true) : Ls listed i := by
  have hjk := h.nosuf j hj
  have hle := hc.le
  have hp : ops[j]? = some ops[j] := Array.getElem?_eq_getElem (by omega)
  exact closure hc h.closed j _ hp (h.closed j _ hp hj) i hb
theorem slots_same {i : Nat} (hc : Chk ops k xf (Region.before ops)) (ht : Trace T S ops k s st r) {ρ : Nat → Nat} {listed : Array Bool} {a : Act} {w : World} (h : SInv D ρ0 w0 ops k s st r ρ listed a w) {o : Oper} (hxi : i ∈ xf → o.dst ≠ none) (hi : i < k) (ho : ops[i]? = some o)
    (hun : ¬ Ls listed i) (hall : ∀ e ∈ o.after, Region.binds .any e = true → Ls listed e.on) {t : Tmp} (hl : t ∈ o.looksAt ops) : tsU s r (dstOf ops) listed k t = (st i).ts.getD t .undef := by
  have hle := hc.le
  rw [tsU_stay (Nat.le_of_lt hi), ht.tsU_eq (Nat.le_of_lt hi)]
  · intro j hj hd
    have hp : ops[j]? = some ops[j] := Array.getElem?_eq_getElem (by omega)
    rcases hc.ord i o ho j _ hj hp with hb | ⟨-, hap⟩ | hxj
    · exact closure hc h.closed i o ho hall j hb
    rotate_left
    · rcases hxj.2 with hki | hno
      · omega
      · simp only [dstOf, hp, Option.bind_some, hno] at hd
        simp at hd
    · simp only [dstOf, hp, Option.bind_some] at hd
      exact absurd hl ((Oper.apart_spec hap).1 t hd)
  · intro j h1 h2 hd hlj
    rcases Nat.lt_or_ge i j with hij | hij
    · have hp : ops[j]? = some ops[j] := Array.getElem?_eq_getElem (by omega)
      rcases hc.ord j _ hp i o hij ho with hb | ⟨-, hap⟩ | hxj
      · exact hun (before_of_listed hc h hlj hb)
      rotate_left
      · rcases hxj.2 with hkj | hno
        · exact absurd (h.nosuf j hlj) (by omega)
        · exact hxi hxj.1 hno
      · simp only [dstOf, hp, Option.bind_some] at hd
        exact absurd hl ((Oper.apart_spec hap).2.2 t hd)
    · have : j = i := by omega
      subst this
      exact hun hlj
theorem slot_kept (hc : Chk ops k xf (Region.before ops)) {ρ : Nat → Nat} {listed : Array Bool} {a : Act} {w : World} (h : SInv D ρ0 w0 ops k s st r ρ listed a w) {i : Nat} {o : Oper} (_hi : i < k) (ho : ops[i]? = some o)
    (hun : ¬ Ls listed i) {t : Tmp} (hd : o.dst = some t) {j : Nat} (hj : i < j) (hjk : j < k) (hdj : dstOf ops j = some t) : ¬ Ls listed j := by
  intro hlj
  have hle := hc.le
  have hp : ops[j]? = some ops[j] := Array.getElem?_eq_getElem (by omega)
  rcases hc.ord j _ hp i o hj ho with hb | ⟨-, hap⟩ | hxj
  · exact hun (before_of_listed hc h hlj hb)
  rotate_left
  · rcases hxj.2 with hkj | hno
    · omega
    · rw [hno] at hd
      simp at hd
  · simp only [dstOf, hp, Option.bind_some] at hdj
    exact (Oper.apart_spec hap).2.1 t hd hdj
theorem SInv.next (hc : Chk ops k xf (Region.before ops)) (ht : Trace T S ops k s st r) {ρ : Nat → Nat} {listed : Array Bool} {a : Act} {w : World} (h : SInv D ρ0 w0 ops k s st r ρ listed a w) {i : Nat} {o : Oper} (hi : i < k) (ho : ops[i]? = some o)
    (hun : ¬ Ls listed i) (hall : ∀ e ∈ o.after, Region.binds .any e = true → Ls listed e.on) {ρ' : Nat → Nat} {w' : World} {x : Value}
    (hx : ∀ t, o.dst = some t → SR ρ' (memNew (memU s r (fun i => (st i).m.length) listed k) (st i).m.length (r i).2) (r i).1 x)
    (hinv : Inv D ρ0 w0 ρ' (memNew (memU s r (fun i => (st i).m.length) listed k) (st i).m.length (r i).2) w')
    (hlat : Later ρ (memU s r (fun i => (st i).m.length) listed k) ρ' (memNew (memU s r (fun i => (st i).m.length) listed k) (st i).m.length (r i).2)) :
    SInv D ρ0 w0 ops k s st r ρ' (listed.setIfInBounds i true) (a.put o.dst x) w' := by
  have hle := hc.le
  have hin : i < ops.size := by omega
  have hset : ∀ j, Ls (listed.setIfInBounds i true) j ↔ j = i ∨ Ls listed j := fun j => Ls_set h.size hin
  have hset' : ∀ j, (listed.setIfInBounds i true).getD j false = true ↔ j = i ∨ listed.getD j false = true := hset
  have hlen := ht.len_succ hi
  have hmem : memU s r (fun i => (st i).m.length) (listed.setIfInBounds i true) k = memNew (memU s r (fun i => (st i).m.length) listed k) (st i).m.length (r i).2 := by
    funext b
    have low : ∀ j, j ≤ i → memU s r (fun i => (st i).m.length) (listed.setIfInBounds i true) j b = memU s r (fun i => (st i).m.length) listed j b := by
      intro j hj
      induction j with
      | zero => rfl
      | succ n ih =>
        rw [memU, memU, ih (by omega)]
        have : ((listed.setIfInBounds i true).getD n false = true) ↔ (listed.getD n false = true) := by
          rw [hset']; constructor
          · rintro (e | e)
            · omega
            · exact e
          · exact .inr
        simp only [this]
    have high : ∀ j, i + 1 ≤ j → j ≤ k → ¬ ((st i).m.length ≤ b ∧ b < (st i).m.length + (r i).2.length) →
        memU s r (fun i => (st i).m.length) (listed.setIfInBounds i true) j b = memU s r (fun i => (st i).m.length) listed j b := by
      intro j hj hjk hnb
      induction j with
      | zero => omega
      | succ n ih =>
        by_cases hni : n = i
        · subst hni
          rw [memU, memU, if_neg (fun q => hnb q.2), if_neg (fun q => hnb q.2)]
          exact low n (Nat.le_refl _)
        · rw [memU, memU, ih (by omega) (by omega)]
          have : ((listed.setIfInBounds i true).getD n false = true) ↔ (listed.getD n false = true) := by
            rw [hset']; constructor
            · rintro (e | e)
              · omega
              · exact e
            · exact .inr
          simp only [this]
    unfold memNew
    by_cases hb : (st i).m.length ≤ b ∧ b < (st i).m.length + (r i).2.length
    · rw [if_pos hb, ht.memU_near (j := i + 1) (by omega) (by omega), memU, if_pos ⟨(hset' i).2 (.inl rfl), hb⟩]
    · rw [if_neg hb]
      exact high k (by omega) (Nat.le_refl _) hb
  refine ⟨by simpa using h.size, ?_, ?_, by rw [hmem]; exact hinv, ?_, ?_, ?_, ?_⟩
  · intro j p hp hl e he hb
    rw [hset] at hl ⊢
    rcases hl with rfl | hl
    · rw [ho] at hp; cases hp
      exact .inr (hall e he hb)
    · exact .inr (h.closed j p hp hl e he hb)
  · intro j hl
    rw [hset] at hl
    rcases hl with rfl | hl
    · exact hi
    · exact h.nosuf j hl
  · intro t
    rw [hmem]
    by_cases hd : o.dst = some t ∧ t < s.ts.length
    · -- the slot just written
      have hv : tsU s r (dstOf ops) (listed.setIfInBounds i true) k t = (r i).1 := by
        rw [tsU_stay (j := i + 1) (by omega), tsU, if_pos]
        · exact ⟨(hset' i).2 (.inl rfl), by simp [dstOf, ho, hd.1], hd.2⟩
        · intro j h1 h2 hdj
          rw [hset]
          rintro (rfl | hl)
          · omega
          · exact slot_kept hc h hi ho hun hd.1 (by omega) h2 hdj hl
      have hval : (a.put o.dst x).tmps.getD t Go.undef = x := by
        have : t < a.tmps.size := by rw [h.sz]; exact hd.2
        simp [Act.put, hd.1, this]
      rw [hv, hval]
      exact hx t hd.1
    · have hv : tsU s r (dstOf ops) (listed.setIfInBounds i true) k t = tsU s r (dstOf ops) listed k t := by
        have key : ∀ j, tsU s r (dstOf ops) (listed.setIfInBounds i true) j t = tsU s r (dstOf ops) listed j t := by
          intro j
          induction j with
          | zero => rfl
          | succ n ih =>
            rw [tsU, tsU, ih]
            by_cases hni : n = i
            · subst hni
              have hno : ¬ (dstOf ops n = some t ∧ t < s.ts.length) := by simpa [dstOf, ho] using hd
              rw [if_neg (fun q => hno q.2), if_neg (fun q => hno q.2)]
            · have : ((listed.setIfInBounds i true).getD n false = true) ↔ (listed.getD n false = true) := by
                rw [hset']; constructor
                · rintro (e | e)
                  · exact absurd e hni
                  · exact e
                · exact .inr
              simp only [this]
        exact key k
      rw [hv]
      have hval : (a.put o.dst x).tmps.getD t Go.undef = a.tmps.getD t Go.undef := by
        cases hdo : o.dst with
        | none => rfl
        | some d =>
          simp only [Act.put, Array.getD_eq_getD_getElem?, Array.getElem?_setIfInBounds]
          by_cases hdt : d = t
          · subst hdt
            have : ¬ d < a.tmps.size := by rw [h.sz]; intro q; exact hd ⟨hdo, q⟩
            simp [this]
          · simp [hdt]
      rw [hval]
      exact (h.tmps t).later hlat
  · cases hdo : o.dst <;> simp [Act.put, h.sz]
  · have : (a.put o.dst x).defers = a.defers := by cases o.dst <;> rfl
    rw [this, h.defers]
    apply List.map_congr_left
    intro d hd
    rw [concT_congr d.2 fun c hcc => ((hlat c ((h.dref d hd).2 c hcc)).1).symm]
  · intro d hd
    rw [hmem]
    exact ⟨(h.dref d hd).1, fun c hcc => (hlat c ((h.dref d hd).2 c hcc)).2⟩
theorem qStep_ok {i : Nat} (hT : TOk P T) (hS : STok P S) (hc : Chk ops k xf (Region.before ops)) (ht : Trace T S ops k s st r) (h0 : ∀ t, ∀ b ∈ refs (s.ts.getD t .undef), b < s.m.length) {ρ : Nat → Nat} {listed : Array Bool} {a : Act} {w : World}
    (h : SInv D ρ0 w0 ops k s st r ρ listed a w) {o : Oper} (hxi : i ∈ xf → o.dst ≠ none) (hi : i < k) (ho : ops[i]? = some o) (hun : ¬ Ls listed i) (hall : ∀ e ∈ o.after, Region.binds .any e = true → Ls listed e.on) {K : Act → World → Prop} {R : Exit → Act → World → Prop}
    (hK : ∀ ρ' a' w', SInv D ρ0 w0 ops k s st r ρ' (listed.setIfInBounds i true) a' w' → K a' w') : if Region.wanted o (yielded ops a.tmps) then o.wp P a w K R ∨ (o.asks P a w ∧ LetsOut R) else K (a.put o.dst Go.undef) w := by
  obtain ⟨o', ho', hq, -, -⟩ := ht.step i hi
  rw [ho] at ho'; cases ho'
  have hsame : ∀ t, t ∈ o.looksAt ops → tsU s r (dstOf ops) listed k t = (st i).ts.getD t .undef := fun t hl => slots_same hc ht h hxi hi ho hun hall hl
  have hwf := ht.wf h0 (Nat.le_of_lt hi)
  have hfresh : ∀ j, j < (r i).2.length → memU s r (fun i => (st i).m.length) listed k ((st i).m.length + j) = none := by
    intro j hj
    have hlen := ht.len_succ hi
    rw [ht.memU_near (j := i + 1) (by omega) (by omega), memU, if_neg (fun q => hun q.1)]
    exact ht.memU_far (by omega) (by omega)
  have hmemo : ∀ b, b < (st i).m.length → memU s r (fun i => (st i).m.length) listed k b ≠ none → (st i).mem b = memU s r (fun i => (st i).m.length) listed k b := by
    intro b hb hne
    rw [ht.memU_near (j := i) (by omega) hb] at hne ⊢
    exact (ht.memU_eq (by omega) hne).symm
  have run : doQ T S o (st i) = some (r i) → o.wp P a w K R := by
    intro hdo
    have hev : ∀ x, SR ρ (memU s r (fun i => (st i).m.length) listed k) (evF (tsU s r (dstOf ops) listed k) x) (a.eval x) := by
      intro x
      cases x with
      | tmp t => exact h.tmps t
      | const v => exact absV_spec v ρ _
      | global g => exact .inl rfl
      | func f => exact .inr ⟨rfl, rfl, by simp [evF, refs, refsL]⟩
    have hevs : ∀ x ∈ o.op.operands, evA (st i).ts x = evF (tsU s r (dstOf ops) listed k) x := by
      intro x hx
      rw [evA_eq]
      cases x with
      | tmp t => exact (hsame t (mem_looksAt hx)).symm
      | _ => rfl
    have hrefs : ∀ x ∈ o.op.operands, ∀ b ∈ refs (evA (st i).ts x), (st i).mem b = memU s r (fun i => (st i).m.length) listed k b := by
      intro x hx b hb
      refine hmemo b ?_ ?_
      · cases x with
        | tmp t => exact hwf t b hb
        | const v => have := (absV_spec v id fun _ => none).refs_mem b hb; simp at this
        | global g => simp [evA, refs] at hb
        | func f => simp [evA, refs, refsL] at hb
      · rw [hevs x hx] at hb
        exact (hev x).refs_mem b hb
    unfold doQ at hdo
    split at hdo
    · -- a call
      rename_i f args at_ hop
      have hf : Operand.tmp = Operand.tmp := rfl
      have mf : f ∈ o.op.operands := by rw [hop]; simp [Op.operands, Call.operands]
      have margs : ∀ x ∈ args.toList, x ∈ o.op.operands := by
        intro x hx
        rw [hop]
        simp only [Op.operands, Call.operands, Array.mem_append]
        exact .inr (by simpa using hx)
      split at hdo
      · rename_i id l hfv
        split at hdo
        · rename_i g hg
          split at hdo
          · rename_i hso
            have e1 : args.toList.map (evA (st i).ts) = args.toList.map (evF (tsU s r (dstOf ops) listed k)) := List.map_congr_left fun x hx => hevs x (margs x hx)
            have hfv' : callee (evF (tsU s r (dstOf ops) listed k) f) (args.toList.map (evF (tsU s r (dstOf ops) listed k))) = some (id, l) := by rw [← hevs f mf, ← e1]; exact hfv
            obtain ⟨hrf0, hexec0⟩ := callee_ok (P := P) (at_ := at_) (fun x => hev x) hfv' hso
            have hrf : ∀ c ∈ refsL l, (st i).mem c = memU s r (fun i => (st i).m.length) listed k c ∧ memU s r (fun i => (st i).m.length) listed k c ≠ none := by
              intro c hcc
              refine ⟨?_, hrf0 c hcc⟩
              rcases callee_refs hfv c hcc with hcc | hcc
              · obtain ⟨u, hu, hcc⟩ := mem_refsL.1 hcc
                obtain ⟨x, hx, rfl⟩ := List.mem_map.1 hu
                exact hrefs x (margs x hx) c hcc
              · exact hrefs f mf c hcc
            have henv : envOf (st i).mem (refsL l) = envOf (memU s r (fun i => (st i).m.length) listed k) (refsL l) := by
              funext b
              unfold envOf
              split
              · rename_i hb; exact (hrf b hb).1
              · rfl
            rw [henv] at hdo
            cases hgr : g l (envOf (memU s r (fun i => (st i).m.length) listed k) (refsL l)) (st i).m.length with
            | val v up nw =>
              rw [hgr] at hdo
              cases up with
              | cons u up => simp [quiet] at hdo
              | nil =>
                simp only [quiet, Option.some.injEq] at hdo
                have hv : v = (r i).1 := by rw [← hdo]
                have hnw : nw = (r i).2 := by rw [← hdo]
                subst hv; subst hnw
                have hcall := hS id g hg _ D ρ0 w0 ρ (memU s r (fun i => (st i).m.length) listed k) (envOf (memU s r (fun i => (st i).m.length) listed k) (refsL l)) (st i).m.length w (fun b blk hb => by unfold envOf at hb; split at hb; exact hb; simp at hb) (by rw [hgr]; simp) hso (fun c hcc => (hrf c hcc).2) (fun j hj => by rw [hgr] at hj; exact hfresh j hj) h.inv
                rw [hgr] at hcall
                have hexec : (execOp a.eval o).run P w = (callFunc id (l.map (conc ρ)).toArray).run P w := hexec0 o hop w
                have fin : ∀ e w', CRpost D ρ0 w0 ρ (memU s r (fun i => (st i).m.length) listed k) (st i).m.length (.val (r i).1 [] (r i).2) e w' → ∃ x, e = .returned x ∧ K (a.put o.dst x) w' := by
                  rintro e w' ⟨ρ', x, rfl, c3, -, c4, c5⟩
                  rw [memUp_nil] at c3 c4 c5
                  exact ⟨x, rfl, hK _ _ _ (h.next hc ht hi ho hun hall (fun _ _ => c3) c4 c5)⟩
                unfold Oper.wp
                rw [hexec]
                rcases hcall with ⟨v, w', hr, hpost⟩ | ⟨hr, hcalls⟩
                · rw [hr]
                  obtain ⟨x, hx, hk⟩ := fin _ _ hpost
                  cases hx
                  exact hk
                · rw [hr]
                  refine hcalls.mono fun e w' hpost => ?_
                  obtain ⟨x, rfl, hk⟩ := fin _ _ hpost
                  exact hk
            | pan v up nw => rw [hgr] at hdo; simp [quiet] at hdo
            | any q => rw [hgr] at hdo; simp [quiet] at hdo
            | fail => rw [hgr] at hdo; simp [quiet] at hdo
          · simp at hdo
        · simp at hdo
      · simp at hdo
    · simp at hdo
    · rename_i op hnc hnd
      split at hdo
      · rename_i v nw hopa
        simp only [Option.some.injEq] at hdo
        have hv : v = (r i).1 := by rw [← hdo]
        have hnw : nw = (r i).2 := by rw [← hdo]
        subst hv; subst hnw
        rw [opA_local hevs hrefs] at hopa
        obtain ⟨nx, w', ρ', x, c1, c2, c3, c4, c5⟩ := opA_ok hT h.inv (fun hne => by
          have : 0 < (r i).2.length := List.length_pos_iff.2 hne
          simpa using hfresh 0 this) hev hopa
        rw [memUp_nil] at c3 c4 c5
        have hk := hK _ _ _ (h.next hc ht hi ho hun hall (fun _ _ => c3) c4 c5)
        unfold Oper.wp
        rw [c1]
        rcases c2 with rfl | ⟨rfl, rfl⟩
        · exact hk
        · exact hk
      · simp at hdo
  have skip : (AV.tup [], ([] : List Blk)) = r i → K (a.put o.dst Go.undef) w := by
    intro hr
    have h1 : (r i).1 = .tup [] := by rw [← hr]
    have h2 : (r i).2 = [] := by rw [← hr]
    refine hK ρ _ _ (h.next hc ht hi ho hun hall (x := Go.undef) ?_ ?_ ?_)
    · intro _ _; rw [h1]; exact .inr ⟨rfl, rfl, by simp [refs, refsL]⟩
    · rw [h2, memNew_nil]; exact h.inv
    · rw [h2, memNew_nil]; exact Later.refl _ _
  unfold qStep at hq
  split at hq
  · rename_i hgd
    rw [if_pos (by simp [Region.wanted, hgd])]
    exact .inl (run hq)
  · rename_i g want hgd
    split at hq
    · rename_i hd
      have : yielded ops a.tmps g = none := by unfold yielded; rw [hd]; rfl
      rw [if_neg (by simp [Region.wanted, hgd, this])]
      exact skip (by simpa using hq)
    · rename_i d hd
      have hsd := hsame d (mem_looksAt_guard hgd hd)
      have hval := h.tmps d
      rw [hsd] at hval
      have hlt : (st i).ts.getD d .undef ≠ .undef → a.tmps[d]? = some (a.tmps.getD d Go.undef) := by
        intro hne
        have : d < (st i).ts.length := by
          rcases Nat.lt_or_ge d (st i).ts.length with h' | h'
          · exact h'
          · rw [List.getD_eq_getElem?_getD, List.getElem?_eq_none h'] at hne; simp at hne
        have h2 : d < a.tmps.size := by rw [h.sz, ← ht.tslen (Nat.le_of_lt hi)]; exact this
        simp [h2]
      split at hq
      · rename_i b hb
        have h1 := hlt (by rw [hb]; simp)
        rw [hb] at hval
        obtain ⟨e, -, -⟩ := hval.get (by simp)
        have hy : yielded ops a.tmps g = some b := by
          unfold yielded
          rw [hd, Option.bind_some, h1, e]
          rfl
        split at hq
        · rename_i hbw
          rw [if_pos (by simp [Region.wanted, hgd, hy, hbw])]
          exact .inl (run hq)
        · rename_i hbw
          rw [if_neg (by simp [Region.wanted, hgd, hy, hbw])]
          exact skip (by simpa using hq)
      · simp at hq
      · rename_i hnb hnu
        have h1 := hlt hnu
        obtain ⟨e, -, -⟩ := hval.get hnu
        have hy : yielded ops a.tmps g = none := by
          unfold yielded
          rw [hd, Option.bind_some, h1, e]
          cases hv : (st i).ts.getD d .undef <;> first
            | (exact absurd hv (hnb _))
            | (exact absurd hv hnu)
            | rfl
        rw [if_neg (by simp [Region.wanted, hgd, hy])]
        exact skip (by simpa using hq)
theorem draw_main (hT : TOk P T) (hS : STok P S) (hc : Chk ops k xf (Region.before ops)) (ht : Trace T S ops k s st r) (h0 : ∀ t, ∀ b ∈ refs (s.ts.getD t .undef), b < s.m.length) (hg : Good (opsA T S ops (ops.toList.drop k) (st k)) Q) :
    ∀ (fuel : Nat) (U : List Nat) {ρ : Nat → Nat} {listed : Array Bool} {a : Act} {w : World}, (∀ f, f ∈ xf → Ls listed f) → SInv D ρ0 w0 ops k s st r ρ listed a w → U.Nodup → (∀ i, i ∈ U ↔ i < ops.size ∧ ¬ Ls listed i) → U.length = fuel →
      wpAny P .any ops (Post D ρ0 w0 Q) fuel listed a w := by
  intro fuel
  have hle := hc.le
  induction fuel with
  | zero =>
    intro U ρ listed a w hxl h hnd hU hlen
    have hUn : U = [] := List.length_eq_zero_iff.1 hlen
    subst hUn
    have hall : ∀ i, i < ops.size → Ls listed i := fun i hi => Classical.byContradiction fun q => by have := (hU i).2 ⟨hi, q⟩; simp at this
    have hk : k = ops.size := by
      rcases Nat.lt_or_ge k ops.size with h' | h'
      · have := h.nosuf k (hall k h'); omega
      · omega
    have hrs : RS D ρ0 w0 ρ (st k) a w := by
      have hm : (st k).mem = memU s r (fun i => (st i).m.length) listed k := by
        funext b; exact (ht.memU_all (Nat.le_refl _) (fun i hi => hall i (by omega)) b).symm
      refine ⟨by rw [hm]; exact h.inv, fun t => ?_, by rw [ht.tslen (Nat.le_refl _)]; exact h.sz, by rw [ht.df (Nat.le_refl _)]; exact h.defers, by rw [ht.df (Nat.le_refl _), hm]; exact h.dref⟩
      rw [hm, ← ht.tsU_eq (listed := listed) (Nat.le_refl _) fun i hi _ => hall i (by omega)]
      exact h.tmps t
    exact suffix_ok hT hS hc 0 k (Nat.le_refl _) (by omega) h.size (fun j => ⟨fun q => h.nosuf j q, fun q => hall j (by omega)⟩) hrs hg
  | succ fuel ih =>
    intro U ρ listed a w hxl h hnd hU hlen
    by_cases hpre : ∀ i, i < k → Ls listed i
    · have hrs : RS D ρ0 w0 ρ (st k) a w := by
        have hm : (st k).mem = memU s r (fun i => (st i).m.length) listed k := by
          funext b; exact (ht.memU_all (Nat.le_refl _) (fun i hi => hpre i hi) b).symm
        refine ⟨by rw [hm]; exact h.inv, fun t => ?_, by rw [ht.tslen (Nat.le_refl _)]; exact h.sz, by rw [ht.df (Nat.le_refl _)]; exact h.defers, by rw [ht.df (Nat.le_refl _), hm]; exact h.dref⟩
        rw [hm, ← ht.tsU_eq (listed := listed) (Nat.le_refl _) fun i hi _ => hpre i hi]
        exact h.tmps t
      have hl : ∀ j, Ls listed j ↔ j < k := fun j => ⟨fun q => h.nosuf j q, fun q => hpre j q⟩
      have hperm : U.Perm (List.range' k (ops.size - k)) := by
        have hnr : (List.range' k (ops.size - k)).Nodup := List.nodup_range'
        rw [List.perm_ext_iff_of_nodup hnd hnr]
        intro i
        rw [hU i, hl i, List.mem_range'_1]
        omega
      have hln := hperm.length_eq
      rw [List.length_range', hlen] at hln
      exact suffix_ok hT hS hc (fuel + 1) k (Nat.le_refl _) (by omega) h.size hl hrs hg
    · have hex : ∃ i, i < k ∧ ¬ Ls listed i := Classical.byContradiction fun q => hpre fun i hi => Classical.byContradiction fun q2 => q ⟨i, hi, q2⟩
      have hmin : ∀ n i, i ≤ n → i < k → ¬ Ls listed i → ∃ j, j ∈ Region.ready .any ops listed := by
        intro n
        induction n with
        | zero =>
          intro i hin hik hil
          have : i = 0 := by omega
          subst this
          have hp : ops[0]? = some ops[0] := Array.getElem?_eq_getElem (by omega)
          exact ⟨0, mem_ready.2 ⟨(unlisted_iff h.size).2 ⟨by omega, hil⟩, _, hp, fun e he hb => by have := hc.back 0 _ hp e he hb; omega⟩⟩
        | succ n ihn =>
          intro i hin hik hil
          by_cases hlow : ∃ j, j < i ∧ ¬ Ls listed j
          · obtain ⟨j, hj, hjl⟩ := hlow
            exact ihn j (by omega) (by omega) hjl
          · have hp : ops[i]? = some ops[i] := Array.getElem?_eq_getElem (by omega)
            exact ⟨i, mem_ready.2 ⟨(unlisted_iff h.size).2 ⟨by omega, hil⟩, _, hp, fun e he hb => Classical.byContradiction fun q => hlow ⟨e.on, hc.back i _ hp e he hb, q⟩⟩⟩
      obtain ⟨i0, hi0, hl0⟩ := hex
      obtain ⟨j0, hj0⟩ := hmin i0 i0 (Nat.le_refl _) hi0 hl0
      refine ⟨fun hnil => by rw [hnil] at hj0; simp at hj0, fun i hir => ?_⟩
      obtain ⟨hi1, o, ho, hall⟩ := mem_ready.1 hir
      obtain ⟨hin, hun⟩ := (unlisted_iff h.size).1 hi1
      have hik : i < k := by
        rcases Nat.lt_or_ge i k with h' | h'
        · exact h'
        · exfalso
          have hp : ops[i0]? = some ops[i0] := Array.getElem?_eq_getElem (by omega)
          have hb := (hc.ord i o ho i0 _ (by omega) hp).resolve_right (fun q => by
            rcases q with q | q
            · omega
            · exact hl0 (hxl _ q.1))
          exact hl0 (closure hc h.closed i o ho hall i0 hb)
      unfold wpOp
      rw [ho]
      refine qStep_ok hT hS hc ht h0 h (fun e => absurd (hxl _ e) hun) hik ho hun hall fun ρ' a' w' h' => ?_
      have hmem : i ∈ U := (hU i).2 ⟨hin, hun⟩
      refine ih (U.erase i) (fun f hf => (Ls_set h.size hin).2 (.inr (hxl f hf))) h' (hnd.erase i) (fun j => ?_) (by rw [List.length_erase_of_mem hmem]; omega)
      rw [hnd.mem_erase_iff, hU j, Ls_set h.size hin]
      constructor
      · rintro ⟨h1, h2, h3⟩; exact ⟨h2, fun q => q.elim h1 h3⟩
      · rintro ⟨h1, h2⟩; exact ⟨fun e => h2 (.inl e), h1, fun q => h2 (.inr q)⟩
theorem draw_start (hc : Chk ops k xf (Region.before ops)) {ρ : Nat → Nat} {a : Act} {w : World} (h : RS D ρ0 w0 ρ s a w) (hg : Good (qopsA T S ops k ops.toList s) Q) :
    ∃ st r, Trace T S ops k s st r ∧ (∀ t, ∀ b ∈ refs (s.ts.getD t .undef), b < s.m.length) ∧ Good (opsA T S ops (ops.toList.drop k) (st k)) Q ∧ SInv D ρ0 w0 ops k s st r ρ (Array.replicate ops.size false) a w.drew := by
  have hle := hc.le
  obtain ⟨st, r, e0, e1, e2⟩ := qopsA_trace k ops.toList s (by simpa using hle) hg
  have ht : Trace T S ops k s st r := ⟨e0, fun i hi => by obtain ⟨o, a1, a2⟩ := e1 i hi; exact ⟨o, by simpa using a1, a2⟩⟩
  have h0 : ∀ t, ∀ b ∈ refs (s.ts.getD t .undef), b < s.m.length := by
    intro t b hb
    have := (h.tmps t).refs_mem b hb
    rcases Nat.lt_or_ge b s.m.length with h' | h'
    · exact h'
    · exact absurd (List.getElem?_eq_none h') this
  have hno : ∀ j, ¬ Ls (Array.replicate ops.size false) j := by
    intro j
    unfold Ls
    by_cases hj : j < ops.size <;> simp [hj]
  have hmem0 : memU s r (fun i => (st i).m.length) (Array.replicate ops.size false) k = s.mem := by
    funext b
    rw [memU_stay (j := 0) (Nat.zero_le _) fun i _ _ hl => absurd hl (hno i)]
    rfl
  refine ⟨st, r, ht, h0, e2, ⟨by simp, fun i o _ hl => absurd hl (hno i), fun i hl => absurd hl (hno i), by rw [hmem0]; exact h.inv.drew, fun t => ?_, h.size, h.defers, by rw [hmem0]; exact h.dref⟩⟩
  rw [hmem0, tsU_stay (j := 0) (Nat.zero_le _) fun i _ _ _ => hno i]
  exact h.tmps t
theorem draw_plain (hm : P.follows .mixedOrders = true) (hT : TOk P T) (hS : STok P S) {id : Nat} (hchk : chkDraw ops k [] = true) {ρ : Nat → Nat} {a : Act} {w : World} (h : RS D ρ0 w0 ρ s a w) (hg : Good (qopsA T S ops k ops.toList s) Q) :
    (Code.region id ops true).wp P (Post D ρ0 w0 Q) a w := by
  have hc := chk_spec hchk
  obtain ⟨st, r, ht, h0, e2, hs⟩ := draw_start hc h hg
  have hno : ∀ j, ¬ Ls (Array.replicate ops.size false) j := by
    intro j
    unfold Ls
    by_cases hj : j < ops.size <;> simp [hj]
  exact wp_region_any hm (draw_main hT hS hc ht h0 e2 ops.size (List.range ops.size) (by simp) hs List.nodup_range (fun i => by simp [hno i]) (by simp))
theorem without_get (ops : Array Oper) (f i : Nat) : (without ops f)[i]? = (ops[i]?).map fun o => if i = f then { o with dst := none } else o := by
  simp only [without, Array.getElem?_modify]
  by_cases h : f = i
  · subst h; cases ops[f]? <;> simp
  · have : ¬ i = f := fun e => h e.symm
    cases ops[i]? <;> simp [h, this]
theorem without_size (ops : Array Oper) (f : Nat) : (without ops f).size = ops.size := by simp [without]
theorem ready_without (ops : Array Oper) (f : Nat) (listed : Array Bool) : Region.ready .any (without ops f) listed = Region.ready .any ops listed := by
  unfold Region.ready
  rw [without_size]
  apply List.filter_congr
  intro i _
  rw [without_get]
  cases ops[i]? with
  | none => rfl
  | some o => by_cases h : i = f <;> simp [h]
theorem wpAny_without {R : Exit → Act → World → Prop} {f : Nat} (hg : ∀ (i : Nat) (o : Oper) (g : Nat) (want : Bool), ops[i]? = some o → o.guard = some (g, want) → g ≠ f) : ∀ (fuel : Nat) {listed : Array Bool} {a : Act} {w : World}, Ls listed f → listed.size = ops.size →
    wpAny P .any (without ops f) R fuel listed a w → wpAny P .any ops R fuel listed a w
  | 0, listed, a, w, _, _, h => by
    have h1 := h.1
    rw [ready_without] at h1
    exact ⟨h1, h.2⟩
  | fuel + 1, listed, a, w, hl, hs, h => by
    obtain ⟨h1, h2⟩ := h
    rw [ready_without] at h1
    refine ⟨h1, fun i hi => ?_⟩
    have hif : i ≠ f := by
      rintro rfl
      obtain ⟨hi1, -⟩ := mem_ready.1 hi
      exact ((unlisted_iff hs).1 hi1).2 hl
    have hin : i < ops.size := by
      obtain ⟨hi1, -⟩ := mem_ready.1 hi
      exact ((unlisted_iff hs).1 hi1).1
    have h3 := h2 i (by rw [ready_without]; exact hi)
    have hlf : Ls (listed.setIfInBounds i true) f := (Ls_set hs hin).2 (.inr hl)
    have h4 := wpOp_mono (P := P) (ops := without ops f) (Q := R) (fun a w => wpAny_without hg fuel (a := a) (w := w) hlf (by simpa using hs)) h3
    unfold wpOp at h4 ⊢
    rw [without_get] at h4
    cases ho : ops[i]? with
    | none => rw [ho] at h4; exact h4
    | some o =>
      rw [ho] at h4
      simp only [Option.map_some, if_neg hif] at h4 ⊢
      have hy : Region.wanted o (yielded (without ops f) a.tmps) = Region.wanted o (yielded ops a.tmps) := by
        unfold Region.wanted
        cases hgd : o.guard with
        | none => rfl
        | some p =>
          obtain ⟨g, want⟩ := p
          have hgf := hg i o g want ho hgd
          simp only []
          unfold yielded
          rw [without_get]
          cases ops[g]? <;> simp [hgf]
      rw [hy] at h4
      exact h4
theorem Good.norm {Q : Ex → St → Prop} : ∀ {o : Out}, Good (normOnly o) Q → Good o fun x s => x = .norm ∧ Q x s
  | .fin x s, h => by cases x <;> first | exact ⟨rfl, h⟩ | exact h.elim
  | .any k, h => fun n => Good.norm (h n)
  | .fail, h => h
def chkFlo (ops : Array Oper) (k f : Nat) : Bool :=
  chkDraw (without ops f) k [f] && Region.noSelect ops && Region.free .any ops (Array.replicate ops.size false) f && decide (f < k) &&
  ops.all (fun o => match o.guard with | some (g, _) => g != f | none => true) &&
  match ops[f]? with
  | some o => o.after.isEmpty && o.guard.isNone && match o.op with | .move _ => true | _ => false
  | none => false
theorem flo_sound (hm : P.follows .mixedOrders = true) (hT : TOk P T) (hS : STok P S) {f id : Nat} (hchk : chkFlo ops k f = true) {ρ : Nat → Nat} {a : Act} {w : World} (h : RS D ρ0 w0 ρ s a w) (hg : Good (floA T S ops k f s) Q) :
    (Code.region id ops true).wp P (Post D ρ0 w0 Q) a w := by
  simp only [chkFlo, Bool.and_eq_true, decide_eq_true_eq] at hchk
  obtain ⟨⟨⟨⟨⟨c1, c2⟩, c3⟩, c4⟩, c5⟩, c6⟩ := hchk
  cases hof : ops[f]? with
  | none => rw [hof] at c6; simp at c6
  | some o =>
    rw [hof] at c6
    simp only [Bool.and_eq_true, Array.isEmpty_iff, Option.isNone_iff_eq_none] at c6
    obtain ⟨⟨o1, o2⟩, o3⟩ := c6
    have hfn : f < ops.size := (Array.getElem?_eq_some_iff.1 hof).1
    unfold floA at hg
    rw [hof] at hg
    simp only [] at hg
    split at hg
    · rename_i x hop
      have hc := chk_spec c1
      have hput : RS D ρ0 w0 ρ (s.put o.dst (evA s.ts x)) (a.put o.dst (a.eval x)) w := h.put h.inv (Later.refl _ _) (h.ev x) o.dst
      obtain ⟨st, r, ht, h0, e2, hs⟩ := draw_start hc hput hg.norm
      have hoq : (without ops f)[f]? = some { o with dst := none } := by rw [without_get, hof]; simp
      obtain ⟨o', ho', hq, -, -⟩ := ht.step f c4
      rw [hoq] at ho'; cases ho'
      have hr : r f = (evA (st f).ts x, []) := by
        have hev : qStep T S (without ops f) { o with dst := none } (st f) = some (evA (st f).ts x, []) := by
          unfold qStep
          rw [o2]
          simp only [doQ, hop, opA]
        rw [hev] at hq
        exact (Option.some.inj hq).symm
      have hnof : ¬ Ls (Array.replicate (without ops f).size false) f := by
        unfold Ls
        by_cases hj : f < (without ops f).size <;> simp [hj]
      have hnext := hs.next hc ht c4 hoq hnof (fun e he _ => by simp [o1] at he) (ρ' := ρ) (x := Go.undef) (w' := w.drew) (fun t ht => by simp at ht) (by rw [hr, memNew_nil]; exact hs.inv) (by rw [hr, memNew_nil]; exact Later.refl _ _)
      have hno : ∀ j, ¬ Ls (Array.replicate ops.size false) j := by
        intro j
        unfold Ls
        by_cases hj : j < ops.size <;> simp [hj]
      rw [without_size] at hnext
      have hfin := draw_main hT hS hc ht h0 e2 (ops.size - 1) ((List.range ops.size).erase f) (fun q hq => by rw [List.mem_singleton] at hq; subst hq; exact (Ls_set (n := ops.size) (by simp) hfn).2 (.inl rfl)) hnext (List.nodup_range.erase f) (fun i => by
        rw [List.nodup_range.mem_erase_iff, Ls_set (n := ops.size) (by simp) hfn, List.mem_range, without_size]
        constructor
        · rintro ⟨h1, h2⟩; exact ⟨h2, fun q => q.elim h1 (hno i)⟩
        · rintro ⟨h1, h2⟩; exact ⟨fun e => h2 (.inl e), h1⟩) (by rw [List.length_erase_of_mem (by simpa using hfn)]; simp)
      have hw := wpAny_without (R := Post D ρ0 w0 fun x s => x = .norm ∧ Q x s) (fun i o g want ho hgd => by
        rw [Array.all_eq_true_iff_forall_mem] at c5
        have := c5 o (Array.mem_of_getElem? ho)
        rw [hgd] at this
        simpa using this) (ops.size - 1) ((Ls_set (n := ops.size) (by simp) hfn).2 (.inl rfl)) (by simp) hfin
      have hready : f ∈ Region.ready .any ops (Array.replicate ops.size false) := mem_ready.2 ⟨(unlisted_iff (by simp)).2 ⟨hfn, hno f⟩, o, hof, fun e he => by simp [o1] at he⟩
      have hy : Yields P ops o (a.eval x) a := by
        refine .inl ⟨by simp [Region.wanted, o2], fun w => ?_⟩
        unfold execOp
        rw [hop]
        rfl
      have hall := wpAny_first hof (Region.noSelect_spec c2) (Q := Post D ρ0 w0 fun x s => x = .norm ∧ Q x s) (fun c a w hp => by
        obtain ⟨z, s', ρ', -, ⟨rfl, -⟩, h3⟩ := hp
        simp at h3) (ops.size - 1) _ a w.drew (fun j oj hj hne hun hno => Region.free_spec hof c3 j oj hj hne hun hno) hready hy hw
      rw [show ops.size - 1 + 1 = ops.size from by omega] at hall
      refine wp_mono (wp_region_any hm hall) fun e a' w' hp => hp.mono fun x s hq => hq.2
    · exact hg.elim
end
theorem Good.every {α : Type} [Nonempty α] {Q : α → Ex → St → Prop} : ∀ {o : Out}, (∀ x, Good o (Q x)) → Good o fun e s => ∀ x, Q x e s
  | .fin _ _, h => h
  | .any _, h => fun n => Good.every fun x => h x n
  | .fail, h => (h (Classical.choice ‹_›)).elim
theorem good_allOf {Q : Ex → St → Prop} : ∀ {l : List Out}, Good (allOf l) Q → ∀ o ∈ l, Good o Q
  | [], h, _, _ => h.elim
  | [a], h, o, ho => by simp at ho; subst ho; exact h
  | a :: b :: l, h, o, ho => by
    rcases List.mem_cons.1 ho with rfl | ho
    · exact h 0
    · exact good_allOf (l := b :: l) (h 1) o ho
def chkO (ops : Array Oper) (l : List (List Nat)) : Nat → Array Bool → List Nat → Bool
  | 0, listed, pre => (Region.ready .any ops listed).isEmpty && l.contains pre.reverse
  | n + 1, listed, pre => if (Region.ready .any ops listed).isEmpty then l.contains pre.reverse else (Region.ready .any ops listed).all fun i => chkO ops l n (listed.setIfInBounds i true) (i :: pre)
theorem chkO_ex {ops : Array Oper} {l : List (List Nat)} : ∀ (n : Nat) (listed : Array Bool) (pre : List Nat), chkO ops l n listed pre = true → ∃ suf, pre.reverse ++ suf ∈ l
  | 0, listed, pre, h => by
    simp only [chkO, Bool.and_eq_true] at h
    exact ⟨[], by simpa using h.2⟩
  | n + 1, listed, pre, h => by
    unfold chkO at h
    split at h
    · exact ⟨[], by simpa using h⟩
    · rename_i hne
      cases hr : Region.ready .any ops listed with
      | nil => rw [hr] at hne; simp at hne
      | cons i rs =>
        rw [hr] at h
        simp only [List.all_cons, Bool.and_eq_true] at h
        obtain ⟨suf, hs⟩ := chkO_ex n _ _ h.1
        exact ⟨i :: suf, by simpa using hs⟩
section
variable {P : Program} {D : Nat → Prop} {ρ0 : Nat → Nat} {w0 : World} {T : TT} {S : ST} {ops : Array Oper} {Q : Ex → St → Prop} {l : List (List Nat)}
theorem orders_main (hT : TOk P T) (hS : STok P S) : ∀ (n : Nat) (listed : Array Bool) (pre : List Nat) {s : St} {ρ : Nat → Nat} {a : Act} {w : World}, chkO ops l n listed pre = true → RS D ρ0 w0 ρ s a w →
    (∀ suf, pre.reverse ++ suf ∈ l → Good (opsA T S ops (pickO ops suf) s) Q) → wpAny P .any ops (Post D ρ0 w0 Q) n listed a w
  | 0, listed, pre, s, ρ, a, w, hc, h, hg => by
    simp only [chkO, Bool.and_eq_true] at hc
    exact ⟨List.isEmpty_iff.1 hc.1, .norm, s, ρ, h, hg [] (by simpa using hc.2), rfl⟩
  | m + 1, listed, pre, s, ρ, a, w, hc, h, hg => by
    unfold chkO at hc
    split at hc
    · rename_i hr
      have hr := List.isEmpty_iff.1 hr
      refine ⟨fun _ => ⟨.norm, s, ρ, h, hg [] (by simpa using hc), rfl⟩, fun i hi => ?_⟩
      rw [hr] at hi; simp at hi
    · rename_i hne
      refine ⟨fun hr => absurd (by rw [hr]; rfl) hne, fun i hi => ?_⟩
      have hci := List.all_eq_true.1 hc i hi
      obtain ⟨suf0, hs0⟩ := chkO_ex m _ _ hci
      have hg' : ∀ suf, (i :: pre).reverse ++ suf ∈ l → Good (opsA T S ops (pickO ops (i :: suf)) s) Q := fun suf hs => hg (i :: suf) (by simpa using hs)
      unfold wpOp
      cases ho : ops[i]? with
      | none =>
        refine orders_main hT hS m _ _ hci h fun suf hs => ?_
        have := hg' suf hs
        simpa [pickO, ho] using this
      | some o =>
        have hpick : ∀ suf, pickO ops (i :: suf) = o :: pickO ops suf := fun suf => by simp [pickO, ho]
        simp only [hpick] at hg'
        have run : (∀ suf, (i :: pre).reverse ++ suf ∈ l → Good ((doOp T S o s).bind (opsA T S ops (pickO ops suf))) Q) → o.wp P a w (wpAny P .any ops (Post D ρ0 w0 Q) m (listed.setIfInBounds i true)) (Post D ρ0 w0 Q) := by
          intro hr
          haveI : Nonempty { suf // (i :: pre).reverse ++ suf ∈ l } := ⟨⟨suf0, hs0⟩⟩
          have hev := Good.every (α := { suf // (i :: pre).reverse ++ suf ∈ l }) (o := doOp T S o s) (Q := fun suf => Ex.seq (fun s => Good (opsA T S ops (pickO ops suf.1) s) Q) Q) fun suf => Good.bind (hr suf.1 suf.2)
          refine doOp_ok hT hS h hev (fun s' ρ' a' w' h' hq _ _ => orders_main hT hS m _ _ hci h' fun suf hs => hq ⟨suf, hs⟩) (fun e a' w' hp => ?_)
          obtain ⟨x, s', ρ', h1, h2, h3⟩ := hp
          cases x with
          | norm => exact h2.elim
          | exit id => exact ⟨_, s', ρ', h1, h2 ⟨suf0, hs0⟩, h3⟩
          | ret => exact ⟨_, s', ρ', h1, h2 ⟨suf0, hs0⟩, h3⟩
          | pan v => exact ⟨_, s', ρ', h1, h2 ⟨suf0, hs0⟩, h3⟩
        have skip : (∀ suf, (i :: pre).reverse ++ suf ∈ l → Good (opsA T S ops (pickO ops suf) (s.put o.dst (.tup []))) Q) → wpAny P .any ops (Post D ρ0 w0 Q) m (listed.setIfInBounds i true) (a.put o.dst Go.undef) w :=
          fun hr => orders_main hT hS m _ _ hci (h.skip o.dst) hr
        cases hgd : o.guard with
        | none =>
          simp only
          rw [if_pos (by simp [Region.wanted, hgd])]
          refine .inl (run fun suf hs => ?_)
          have := hg' suf hs
          rw [opsA, hgd] at this
          exact this
        | some p =>
          obtain ⟨j, want⟩ := p
          simp only [opsA, hgd] at hg'
          cases hd : (ops[j]?).bind (·.dst) with
          | none =>
            have : yielded ops a.tmps j = none := by unfold yielded; rw [hd]; rfl
            simp only
            rw [if_neg (by simp [Region.wanted, hgd, this])]
            exact skip fun suf hs => by have := hg' suf hs; rw [hd] at this; exact this
          | some d =>
            obtain ⟨y1, y2⟩ := yielded_ok h hd
            simp only [hd] at hg'
            by_cases hb : ∃ b, s.ts.getD d .undef = .bool b
            · obtain ⟨b, hb⟩ := hb
              have hy := y1 b hb
              simp only [hb] at hg'
              by_cases hbw : b = want
              · simp only
                rw [if_pos (by simp [Region.wanted, hgd, hy, hbw])]
                exact .inl (run fun suf hs => by have := hg' suf hs; rw [if_pos hbw] at this; exact this)
              · simp only
                rw [if_neg (by simp [Region.wanted, hgd, hy, hbw])]
                exact skip fun suf hs => by have := hg' suf hs; rw [if_neg hbw] at this; exact this
            · by_cases hu : s.ts.getD d .undef = .undef
              · have := hg' suf0 hs0
                rw [hu] at this
                exact this.elim
              · have hy := y2 hu fun b e => hb ⟨b, e⟩
                simp only
                rw [if_neg (by simp [Region.wanted, hgd, hy])]
                refine skip fun suf hs => ?_
                have := hg' suf hs
                split at this
                · rename_i b hb'; exact absurd ⟨b, hb'⟩ hb
                · rename_i hu'; exact absurd hu' hu
                · exact this
theorem orders_sound (hm : P.follows .mixedOrders = true) (hT : TOk P T) (hS : STok P S) {id : Nat} (hchk : chkO ops l ops.size (Array.replicate ops.size false) [] = true) {s : St} {ρ : Nat → Nat} {a : Act} {w : World} (h : RS D ρ0 w0 ρ s a w)
    (hg : Good (allOf (l.map fun p => opsA T S ops (pickO ops p) s)) Q) : (Code.region id ops true).wp P (Post D ρ0 w0 Q) a w := by
  have h' : RS D ρ0 w0 ρ s a { w with drawn := w.drawn + 1 } := ⟨h.inv.drew, h.tmps, h.size, h.defers, h.dref⟩
  refine wp_region_any hm (orders_main hT hS _ _ [] hchk h' fun suf hs => ?_)
  exact good_allOf hg _ (List.mem_map.2 ⟨suf, by simpa using hs, rfl⟩)
end
def maskB (n m : Nat) : Array Bool := ((List.range n).map fun i => m.testBit i).toArray
def chkG (ops : Array Oper) (g : Array (Nat × List (Nat × Nat))) : Bool :=
  (match g[0]? with | some (m, _) => maskB ops.size m == Array.replicate ops.size false | none => false) &&
  g.toList.all fun r => (Region.ready .any ops (maskB ops.size r.1) == r.2.map (·.1)) && r.2.all fun e => match g[e.2]? with
    | some (m, _) => maskB ops.size m == (maskB ops.size r.1).setIfInBounds e.1 true
    | none => false
section
variable {P : Program} {D : Nat → Prop} {ρ0 : Nat → Nat} {w0 : World} {T : TT} {S : ST} {ops : Array Oper} {Q : Ex → St → Prop} {g : Array (Nat × List (Nat × Nat))}
theorem good_edges {f : Nat → St → Out} {s : St} : ∀ {l : List (Nat × Nat)} {i j : Nat}, (i, j) ∈ l → (opsA T S ops (pickO ops [i]) s).bind (f j) ∈ edges T S ops f l s
  | [], _, _, h => by simp at h
  | (a, b) :: l, i, j, h => by
    unfold edges
    rcases List.mem_cons.1 h with h | h
    · cases h; exact List.mem_cons_self
    · exact List.mem_cons_of_mem _ (good_edges h)
theorem dag_main (hT : TOk P T) (hS : STok P S) (hc : chkG ops g = true) : ∀ (n node m : Nat) (l : List (Nat × Nat)) {s : St} {ρ : Nat → Nat} {a : Act} {w : World}, g[node]? = some (m, l) → RS D ρ0 w0 ρ s a w →
    Good (dagA T S ops g n node s) Q → wpAny P .any ops (Post D ρ0 w0 Q) n (maskB ops.size m) a w := by
  have hrow : ∀ {node m : Nat} {l : List (Nat × Nat)}, g[node]? = some (m, l) → Region.ready .any ops (maskB ops.size m) = l.map (·.1) ∧ ∀ i j, (i, j) ∈ l → ∃ m' l', g[j]? = some (m', l') ∧ maskB ops.size m' = (maskB ops.size m).setIfInBounds i true := by
    intro node m l hn
    simp only [chkG, Bool.and_eq_true] at hc
    have hmem : (m, l) ∈ g.toList := by
      obtain ⟨h1, h2⟩ := Array.getElem?_eq_some_iff.1 hn
      rw [← h2]; simp
    have h1 := List.all_eq_true.1 hc.2 _ hmem
    simp only [Bool.and_eq_true, beq_iff_eq] at h1
    refine ⟨h1.1, fun i j hij => ?_⟩
    have h2 := List.all_eq_true.1 h1.2 _ hij
    simp only at h2
    split at h2
    · rename_i m' l' e
      exact ⟨m', l', e, by simpa using h2⟩
    · simp at h2
  intro n
  induction n with
  | zero =>
    intro node m l s ρ a w hn h hg
    rw [dagA, hn] at hg
    cases l with
    | cons p l => exact hg.elim
    | nil => exact ⟨by simpa using (hrow hn).1, .norm, s, ρ, h, hg, rfl⟩
  | succ n ih =>
    intro node m l s ρ a w hn h hg
    obtain ⟨hr, hnext⟩ := hrow hn
    rw [dagA, hn] at hg
    cases l with
    | nil =>
      refine ⟨fun _ => ⟨.norm, s, ρ, h, hg, rfl⟩, fun i hi => ?_⟩
      rw [hr] at hi; simp at hi
    | cons p l =>
      refine ⟨fun e => absurd (hr.symm.trans e) (by simp), fun i hi => ?_⟩
      rw [hr] at hi
      obtain ⟨⟨i', j⟩, hij, rfl⟩ := List.mem_map.1 hi
      obtain ⟨m', l', hj, hm⟩ := hnext i' j hij
      simp only at hi ⊢
      have hgo : Good ((opsA T S ops (pickO ops [i']) s).bind (dagA T S ops g n j)) Q := good_allOf hg _ (good_edges hij)
      rw [← hm]
      unfold wpOp
      cases ho : ops[i']? with
      | none =>
        have e : pickO ops [i'] = [] := by simp [pickO, ho]
        rw [e] at hgo
        exact ih j m' l' hj h hgo
      | some o =>
        have e : pickO ops [i'] = [o] := by simp [pickO, ho]
        rw [e] at hgo
        have hg1 := Good.bind hgo
        have run : Good ((doOp T S o s).bind (opsA T S ops [])) (Ex.seq (fun s => Good (dagA T S ops g n j s) Q) Q) → o.wp P a w (wpAny P .any ops (Post D ρ0 w0 Q) n (maskB ops.size m')) (Post D ρ0 w0 Q) := by
          intro hx
          have hev := Good.bind hx
          refine doOp_ok hT hS h hev (fun s' ρ' a' w' h' hq _ _ => ih j m' l' hj h' hq) (fun e a' w' hp => ?_)
          obtain ⟨x, s', ρ', h1, h2, h3⟩ := hp
          cases x with
          | norm => exact h2.elim
          | exit id => exact ⟨_, s', ρ', h1, h2, h3⟩
          | ret => exact ⟨_, s', ρ', h1, h2, h3⟩
          | pan v => exact ⟨_, s', ρ', h1, h2, h3⟩
        have skip : Good (opsA T S ops [] (s.put o.dst (.tup []))) (Ex.seq (fun s => Good (dagA T S ops g n j s) Q) Q) → wpAny P .any ops (Post D ρ0 w0 Q) n (maskB ops.size m') (a.put o.dst Go.undef) w :=
          fun hx => ih j m' l' hj (h.skip o.dst) hx
        cases hgd : o.guard with
        | none =>
          simp only
          rw [if_pos (by simp [Region.wanted, hgd])]
          rw [opsA, hgd] at hg1
          exact .inl (run hg1)
        | some q =>
          obtain ⟨q, want⟩ := q
          simp only [opsA, hgd] at hg1
          cases hd : (ops[q]?).bind (·.dst) with
          | none =>
            have : yielded ops a.tmps q = none := by unfold yielded; rw [hd]; rfl
            simp only
            rw [if_neg (by simp [Region.wanted, hgd, this])]
            rw [hd] at hg1
            exact skip hg1
          | some d =>
            obtain ⟨y1, y2⟩ := yielded_ok h hd
            simp only [hd] at hg1
            by_cases hb : ∃ b, s.ts.getD d .undef = .bool b
            · obtain ⟨b, hb⟩ := hb
              have hy := y1 b hb
              simp only [hb] at hg1
              by_cases hbw : b = want
              · simp only
                rw [if_pos (by simp [Region.wanted, hgd, hy, hbw])]
                rw [if_pos hbw] at hg1
                exact .inl (run hg1)
              · simp only
                rw [if_neg (by simp [Region.wanted, hgd, hy, hbw])]
                rw [if_neg hbw] at hg1
                exact skip hg1
            · by_cases hu : s.ts.getD d .undef = .undef
              · rw [hu] at hg1
                exact hg1.elim
              · have hy := y2 hu fun b e => hb ⟨b, e⟩
                simp only
                rw [if_neg (by simp [Region.wanted, hgd, hy])]
                refine skip ?_
                split at hg1
                · rename_i b hb'; exact absurd ⟨b, hb'⟩ hb
                · rename_i hu'; exact absurd hu' hu
                · exact hg1
theorem dag_sound (hm : P.follows .mixedOrders = true) (hT : TOk P T) (hS : STok P S) {id : Nat} (hchk : chkG ops g = true) {s : St} {ρ : Nat → Nat} {a : Act} {w : World} (h : RS D ρ0 w0 ρ s a w)
    (hg : Good (dagA T S ops g ops.size 0 s) Q) : (Code.region id ops true).wp P (Post D ρ0 w0 Q) a w := by
  have h' : RS D ρ0 w0 ρ s a { w with drawn := w.drawn + 1 } := ⟨h.inv.drew, h.tmps, h.size, h.defers, h.dref⟩
  have h0 := hchk
  simp only [chkG, Bool.and_eq_true] at h0
  have h1 := h0.1
  split at h1
  · rename_i m l e
    have := dag_main hT hS hchk ops.size 0 m l e h' hg
    rw [show maskB ops.size m = Array.replicate ops.size false by simpa using h1] at this
    exact wp_region_any hm this
  · simp at h1
end
def chkEag (ops : Array Oper) (k f : Nat) : Bool :=
  chkDraw ops k [f] && Region.noSelect ops && match ops[f]? with
  | some o => o.guard.isNone && o.dst.isSome && (match o.op with | .extract _ _ => true | _ => false) &&
    (List.range ops.size).all fun j => j == f || ((Region.before ops).getD f 0).testBit j || match ops[j]? with
      | some p => p.after.any (fun e => Region.binds .any e && e.on == f) || o.apart ops p
      | none => true
  | none => false
section
variable {P : Program} {D : Nat → Prop} {ρ0 : Nat → Nat} {w0 : World} {T : TT} {S : ST} {ops : Array Oper} {Q : Ex → St → Prop} {k : Nat} {s : St} {st : Nat → St} {r : Nat → AV × List Blk} {f : Nat}
theorem draw_eager (hT : TOk P T) (hS : STok P S) (hc : Chk ops k [f] (Region.before ops)) (ht : Trace T S ops k s st r) (h0 : ∀ t, ∀ b ∈ refs (s.ts.getD t .undef), b < s.m.length) (hg : Good (opsA T S ops (ops.toList.drop k) (st k)) Q)
    (hQ : ∀ x s, Q x s → x = .norm) (hns : Region.noSelect ops = true) {o : Oper} (hof : ops[f]? = some o) (hgd : o.guard = none) (hdst : o.dst.isSome = true) {x : Operand} {c : Nat} (hop : o.op = .extract x c)
    (hfr : ∀ j oj, ops[j]? = some oj → j ≠ f → ((Region.before ops).getD f 0).testBit j = false → oj.after.any (fun e => Region.binds .any e && e.on == f) = true ∨ o.apart ops oj = true) :
    ∀ (fuel : Nat) (U : List Nat) {ρ : Nat → Nat} {listed : Array Bool} {a : Act} {w : World}, ¬ Ls listed f → SInv D ρ0 w0 ops k s st r ρ listed a w → U.Nodup → (∀ i, i ∈ U ↔ i < ops.size ∧ ¬ Ls listed i) → U.length = fuel →
      wpAny P .any ops (Post D ρ0 w0 Q) fuel listed a w := by
  intro fuel
  have hle := hc.le
  have hfk := hc.ex f (by simp)
  have hfn : f < ops.size := by omega
  induction fuel with
  | zero =>
    intro U ρ listed a w hxl h hnd hU hlen
    have hUn : U = [] := List.length_eq_zero_iff.1 hlen
    subst hUn
    have := (hU f).2 ⟨hfn, hxl⟩
    simp at this
  | succ fuel ih =>
    intro U ρ listed a w hxl h hnd hU hlen
    by_cases hfr' : ∀ e ∈ o.after, Region.binds .any e = true → Ls listed e.on
    · -- it is ready: it is taken
      have hready : f ∈ Region.ready .any ops listed := mem_ready.2 ⟨(unlisted_iff h.size).2 ⟨hfn, hxl⟩, o, hof, hfr'⟩
      have hsame : ∀ t, t ∈ o.looksAt ops → tsU s r (dstOf ops) listed k t = (st f).ts.getD t .undef := fun t hl => slots_same (i := f) hc ht h (fun _ hn => by rw [hn] at hdst; simp at hdst) hfk hof hxl hfr' hl
      obtain ⟨o', ho', hq, -, -⟩ := ht.step f hfk
      rw [hof] at ho'; cases ho'
      obtain ⟨l, u, hxv, hlu, hr⟩ : ∃ l u, evA (st f).ts x = .tup l ∧ l[c]? = some u ∧ r f = (u, []) := by
        unfold qStep at hq
        rw [hgd] at hq
        simp only [doQ, hop, opA] at hq
        cases hx : evA (st f).ts x <;> rw [hx] at hq <;> try (simp at hq; done)
        rename_i l
        cases hl : l[c]? with
        | none => simp [hl] at hq
        | some u =>
          simp only [hl, Option.some.injEq] at hq
          exact ⟨l, u, rfl, hl, hq.symm⟩
      have hev : SR ρ (memU s r (fun i => (st i).m.length) listed k) (.tup l) (a.eval x) := by
        rw [← hxv]
        cases hx : x with
        | tmp t =>
          have h1 := h.tmps t
          rw [hsame t (mem_looksAt (by rw [hop]; simp [Op.operands, hx]))] at h1
          exact h1
        | const v => exact absV_spec v ρ _
        | global g => exact .inl rfl
        | func g => exact .inr ⟨rfl, rfl, by simp [evA, refs, refsL]⟩
      obtain ⟨ex, es, ec⟩ := hev.get (by simp)
      have hm : u ∈ l := List.mem_of_getElem? hlu
      have hy : Yields P ops o (conc ρ u) a := by
        refine .inl ⟨by simp [Region.wanted, hgd], fun w => ?_⟩
        simp [execOp, hop, ex, conc, Instr.extract, concT_eq, hlu]
      have hnext := h.next hc ht hfk hof hxl hfr' (ρ' := ρ) (x := conc ρ u) (w' := w)
        (fun t _ => by rw [hr]; exact .inr ⟨rfl, okv_of_solid (mem_solidL.1 (by simpa [okv] using es) u hm), fun b hb => by rw [memNew_nil]; exact ec b (by simp only [refs]; exact mem_refsL.2 ⟨u, hm, hb⟩)⟩)
        (by rw [hr, memNew_nil]; exact h.inv) (by rw [hr, memNew_nil]; exact Later.refl _ _)
      have hmem : f ∈ U := (hU f).2 ⟨hfn, hxl⟩
      have hrest := draw_main (ρ := ρ) hT hS hc ht h0 hg fuel (U.erase f) (fun q hq => by rw [List.mem_singleton] at hq; subst hq; exact (Ls_set h.size hfn).2 (.inl rfl)) hnext (hnd.erase f) (fun j => by
        rw [hnd.mem_erase_iff, hU j, Ls_set h.size hfn]
        constructor
        · rintro ⟨h1, h2, h3⟩; exact ⟨h2, fun q => q.elim h1 h3⟩
        · rintro ⟨h1, h2⟩; exact ⟨fun e => h2 (.inl e), h1, fun q => h2 (.inr q)⟩) (by rw [List.length_erase_of_mem hmem]; omega)
      refine wpAny_first hof (Region.noSelect_spec hns) (fun c a w hp => ?_) fuel listed a w (fun j oj hj hne hun hno => ?_) hready hy hrest
      · obtain ⟨z, s', ρ', -, h2, h3⟩ := hp
        have := hQ _ _ h2
        subst this
        simp at h3
      · cases hb : ((Region.before ops).getD f 0).testBit j with
        | true =>
          have hlj := closure hc h.closed f o hof hfr' j hb
          exact absurd hlj ((unlisted_iff h.size).1 hun).2
        | false =>
          rcases hfr j oj hj hne hb with h' | h'
          · obtain ⟨e, he, hb'⟩ := Array.any_eq_true'.1 h'
            simp only [Bool.and_eq_true, beq_iff_eq] at hb'
            exact absurd hb'.2 (hno e he hb'.1)
          · exact h'
    · -- the least unlisted is ready
      have hmin : ∀ n i, i ≤ n → i < k → ¬ Ls listed i → ∃ j, j ∈ Region.ready .any ops listed := by
        intro n
        induction n with
        | zero =>
          intro i hin hik hil
          have : i = 0 := by omega
          subst this
          have hp : ops[0]? = some ops[0] := Array.getElem?_eq_getElem (by omega)
          exact ⟨0, mem_ready.2 ⟨(unlisted_iff h.size).2 ⟨by omega, hil⟩, _, hp, fun e he hb => by have := hc.back 0 _ hp e he hb; omega⟩⟩
        | succ n ihn =>
          intro i hin hik hil
          by_cases hlow : ∃ j, j < i ∧ ¬ Ls listed j
          · obtain ⟨j, hj, hjl⟩ := hlow
            exact ihn j (by omega) (by omega) hjl
          · have hp : ops[i]? = some ops[i] := Array.getElem?_eq_getElem (by omega)
            exact ⟨i, mem_ready.2 ⟨(unlisted_iff h.size).2 ⟨by omega, hil⟩, _, hp, fun e he hb => Classical.byContradiction fun q => hlow ⟨e.on, hc.back i _ hp e he hb, q⟩⟩⟩
      obtain ⟨j0, hj0⟩ := hmin f f (Nat.le_refl _) hfk hxl
      refine ⟨fun hnil => by rw [hnil] at hj0; simp at hj0, fun i hir => ?_⟩
      obtain ⟨hi1, oi, ho, hall⟩ := mem_ready.1 hir
      obtain ⟨hin, hun⟩ := (unlisted_iff h.size).1 hi1
      have hif : i ≠ f := by
        rintro rfl
        rw [hof] at ho; cases ho
        exact hfr' hall
      have hik : i < k := by
        rcases Nat.lt_or_ge i k with h' | h'
        · exact h'
        · exfalso
          have hlow : ∀ j, j < k → j ≠ f → Ls listed j := by
            intro j hj hjf
            have hp : ops[j]? = some ops[j] := Array.getElem?_eq_getElem (by omega)
            have hb := (hc.ord i oi ho j _ (by omega) hp).resolve_right (fun q => by
              rcases q with q | q
              · omega
              · exact hjf (List.mem_singleton.1 q.1))
            exact closure hc h.closed i oi ho hall j hb
          exact hfr' fun e he hb => hlow _ (by have := hc.back f o hof e he hb; omega) (by have := hc.back f o hof e he hb; omega)
      unfold wpOp
      rw [ho]
      refine qStep_ok hT hS hc ht h0 h (fun e => absurd (List.mem_singleton.1 e) hif) hik ho hun hall fun ρ' a' w' h' => ?_
      have hmem : i ∈ U := (hU i).2 ⟨hin, hun⟩
      refine ih (U.erase i) (fun q => ((Ls_set h.size hin).1 q).elim (fun q => hif q.symm) hxl) h' (hnd.erase i) (fun j => ?_) (by rw [List.length_erase_of_mem hmem]; omega)
      rw [hnd.mem_erase_iff, hU j, Ls_set h.size hin]
      constructor
      · rintro ⟨h1, h2, h3⟩; exact ⟨h2, fun q => q.elim h1 h3⟩
      · rintro ⟨h1, h2⟩; exact ⟨fun e => h2 (.inl e), h1, fun q => h2 (.inr q)⟩
theorem eager_sound (hm : P.follows .mixedOrders = true) (hT : TOk P T) (hS : STok P S) {id : Nat} (hchk : chkEag ops k f = true) {ρ : Nat → Nat} {a : Act} {w : World} (h : RS D ρ0 w0 ρ s a w) (hg : Good (normOnly (qopsA T S ops k ops.toList s)) Q) :
    (Code.region id ops true).wp P (Post D ρ0 w0 Q) a w := by
  simp only [chkEag, Bool.and_eq_true] at hchk
  obtain ⟨⟨c1, c2⟩, c3⟩ := hchk
  cases hof : ops[f]? with
  | none => rw [hof] at c3; simp at c3
  | some o =>
    rw [hof] at c3
    simp only [Bool.and_eq_true, Option.isNone_iff_eq_none] at c3
    obtain ⟨⟨⟨o1, o2⟩, o3⟩, o4⟩ := c3
    split at o3
    · rename_i x c hop
      have hc := chk_spec c1
      obtain ⟨st, r, ht, h0, e2, hs⟩ := draw_start hc h hg.norm
      have hno : ∀ j, ¬ Ls (Array.replicate ops.size false) j := by
        intro j
        unfold Ls
        by_cases hj : j < ops.size <;> simp [hj]
      have hall := draw_eager hT hS hc ht h0 e2 (fun x s q => q.1) c2 hof o1 o2 hop (fun j oj hj hne hb => by
        have h1 := List.all_eq_true.1 o4 j (List.mem_range.2 (Array.getElem?_eq_some_iff.1 hj).1)
        rw [hj] at h1
        simp only [Bool.or_eq_true, beq_iff_eq, hne, false_or, hb, Bool.false_eq_true] at h1
        exact h1) ops.size (List.range ops.size) (hno f) hs List.nodup_range (fun i => by simp [hno i]) (by simp)
      exact wp_mono (wp_region_any hm hall) fun e a' w' hp => hp.mono fun x s hq => hq.2
    · simp at o3
end
end Go.X
end

section
namespace Go.X
theorem Good.mono {Q Q' : Ex → St → Prop} (hq : ∀ x s, Q x s → Q' x s) : ∀ {o : Out}, Good o Q → Good o Q'
  | .fin x s, h => hq x s h
  | .any _, h => fun n => Good.mono hq (h n)
  | .fail, h => h
theorem good_bind {Q : Ex → St → Prop} {f : St → Out} : ∀ {o : Out}, Good (o.bind f) Q ↔ Good o (Ex.seq (fun s => Good (f s) Q) Q)
  | .fin x s => by cases x <;> exact Iff.rfl
  | .any k => ⟨fun h n => good_bind.1 (h n), fun h n => good_bind.2 (h n)⟩
  | .fail => Iff.rfl
section
variable {P : Program} {D : Nat → Prop} {ρ0 ρ : Nat → Nat} {w0 w : World} {T : TT} {S : ST} {mem : Mem}
theorem Inv.then (h : Inv D ρ0 w0 ρ mem w) {ρ' : Nat → Nat} {m' : Mem} {w' : World} (k : Inv (fun b => mem b ≠ none) ρ w ρ' m' w') : Inv D ρ0 w0 ρ' m' w' ∧ Later ρ mem ρ' m' := by
  refine ⟨⟨k.row, k.inj, k.ref, fun b hb => ?_, fun b hb hD => ?_, k.os.trans h.os, k.tape.trans h.tape, k.output.trans h.output, Nat.le_trans h.size k.size, fun i hi hD => ?_⟩, fun b hb => k.ent b hb⟩
  · obtain ⟨e1, e2⟩ := h.ent b hb
    exact ⟨(k.ent b e2).1.trans e1, (k.ent b e2).2⟩
  · by_cases hm : mem b ≠ none
    · rw [(k.ent b hm).1]; exact h.new b hm hD
    · exact Nat.le_trans h.size (k.new b hb hm)
  · rw [k.old i (Nat.lt_of_lt_of_le hi h.size), h.old i hi hD]
    intro b hb e
    by_cases hDb : D b
    · exact hD b hDb (by rw [← (h.ent b hDb).1, e])
    · have := h.new b hb hDb
      omega
theorem Post.then (h : Inv D ρ0 w0 ρ mem w) {Q : Ex → St → Prop} {e : Exit} {a : Act} {w' : World} (hp : Post (fun b => mem b ≠ none) ρ w Q e a w') : Post D ρ0 w0 Q e a w' := by
  obtain ⟨x, s, ρ', h1, h2, h3⟩ := hp
  exact ⟨x, s, ρ', ⟨(h.then h1.inv).1, h1.tmps, h1.size, h1.defers, h1.dref⟩, h2, h3⟩
def Stand (ρ : Nat → Nat) (mem : Mem) (w : World) : Prop := ∀ b blk, mem b = some blk → w.heap[ρ b]? = some (objOf ρ blk)
theorem Inv.stand {w1 : World} {mk : Mem} (h0 : ∀ b blk, mem b = some blk → ∀ c ∈ refsL blk.items, mem c ≠ none) (hmk : ∀ b, mk b ≠ none → mk b = mem b) {m : Mem} {ρ' : Nat → Nat} (h : Inv (fun b => mem b ≠ none) ρ w1 ρ' m w) (hm : ∀ b, mk b ≠ none → m b = mem b) : Stand ρ mk w := by
  intro b blk hb
  have hne' : mk b ≠ none := by rw [hb]; simp
  have hb' : mem b = some blk := by rw [← hmk b hne']; exact hb
  have hne : mem b ≠ none := by rw [hb']; simp
  have hr := h.row b blk (by rw [hm b hne']; exact hb')
  rw [(h.ent b hne).1] at hr
  rw [hr, objOf_congr fun c hc => (h.ent c (h0 b blk hb' c hc)).1]
def lookO : Op → Bool
  | .load _ _ | .extract _ _ | .fieldAddr _ _ _ | .indexAddr _ _ _ | .move _ | .binOp .. | .pick .. => true
  | _ => false
theorem look_pure (hT : TOk P T) {ev : Operand → AV} {aev : Operand → Value} {m m' : Mem} {nxt : Nat} {o : Oper} (hk : lookO o.op = true) (hl : ∀ t a, o.op ≠ .load t a) (hev : ∀ x, SR ρ m (ev x) (aev x)) {v : AV} {up : List (Nat × List AV)} {nw : List Blk}
    (hop : opA T m' nxt ev o.op = .val v up nw) : nw = [] ∧ ∃ xv, (∀ w, (execOp aev o).run P w = .ok (.value xv) w) ∧ SR ρ m v xv := by
  obtain ⟨dst, op, type, pos, after, guard⟩ := o
  simp only at hop hk hl
  cases op with
  | load t a => exact absurd rfl (hl t a)
  | move x =>
    simp only [opA] at hop
    obtain ⟨rfl, rfl, rfl⟩ := val_inj hop
    exact ⟨rfl, aev x, fun w => rfl, hev x⟩
  | extract x i =>
    simp only [opA] at hop
    split at hop
    · rename_i l hx
      split at hop
      · rename_i u hu
        obtain ⟨rfl, rfl, rfl⟩ := val_inj hop
        obtain ⟨ex, es, ec⟩ := (hev x).get (by rw [hx]; simp)
        rw [hx] at ex es ec
        have hm : u ∈ l := List.mem_of_getElem? hu
        exact ⟨rfl, conc ρ u, fun w => by simp [execOp, ex, conc, Instr.extract, concT_eq, hu], .inr ⟨rfl, okv_of_solid (mem_solidL.1 (by simpa [okv] using es) u hm), fun c hc => ec c (by simp only [refs]; exact mem_refsL.2 ⟨u, hm, hc⟩)⟩⟩
      · simp at hop
    · simp at hop
  | fieldAddr s x f =>
    simp only [opA] at hop
    split at hop
    · rename_i fs sz z q b o hi hx
      split at hop
      · rename_i off n ag hf
        split at hop
        · simp at hop
        · rename_i hn0
          obtain ⟨rfl, rfl, rfl⟩ := val_inj hop
          obtain ⟨flds, hu, rfl, hex⟩ := (hT s _ hi).kind
          obtain ⟨ex, -, ec⟩ := (hev x).get (by rw [hx]; simp)
          rw [hx] at ex ec
          simp only [List.getElem?_map, Option.map_eq_some_iff, Array.getElem?_toList, Prod.mk.injEq] at hf
          obtain ⟨fl, hfl, rfl, rfl, rfl⟩ := hf
          obtain ⟨j, d, hj, hd⟩ := hex fl (by rw [Array.mem_toList_iff]; exact Array.mem_of_getElem? hfl)
          have hjs : j.size ≠ 0 := by simpa [Program.cellsOf, hj] using hn0
          refine ⟨rfl, conc ρ (.ptr b _), fun w => ?_, .inr ⟨rfl, rfl, by simpa [refs] using ec⟩⟩
          simp only [execOp, ex, conc, Instr.fieldAt, Sem.run_bind, run_underlying hu, Result.andThen_ok, hfl, Instr.sureAddr, Sem.run_pure, fieldPlace, run_sizeOf hj, hjs, if_false, Addr.add_lit]
      · simp at hop
    · simp at hop
  | indexAddr t x ix =>
    simp only [opA] at hop
    split at hop
    · rename_i n es ea sz z q b o k i hi hx hix
      split at hop
      · rename_i hb
        obtain ⟨rfl, rfl, rfl⟩ := val_inj hop
        obtain ⟨e, hu, ⟨j, d, hj, hjs, hd⟩, -⟩ := (hT t _ hi).kind
        obtain ⟨ex, -, ec⟩ := (hev x).get (by rw [hx]; simp)
        obtain ⟨ei, -, -⟩ := (hev ix).get (by rw [hix]; simp)
        rw [hx] at ex ec; rw [hix] at ei
        refine ⟨rfl, conc ρ (.ptr b _), fun w => ?_, .inr ⟨rfl, rfl, by simpa [refs] using ec⟩⟩
        simp only [execOp, ex, ei, conc, Instr.indexAt, asIntOf, Sem.run_bind, Sem.run_pure, run_underlying hu, Result.andThen_ok, Instr.sureAddr, hb, and_self, if_true, run_sizeOf hj, hjs, Addr.add_lit]
      · simp at hop
    · rename_i e es eb ez sz z q b o n c k i hi hx hix
      split at hop
      · rename_i hb
        obtain ⟨rfl, rfl, rfl⟩ := val_inj hop
        obtain ⟨hu, ⟨j, hj, hjs, -⟩, -⟩ := (hT t _ hi).kind
        obtain ⟨ex, -, ec⟩ := (hev x).get (by rw [hx]; simp)
        obtain ⟨ei, -, -⟩ := (hev ix).get (by rw [hix]; simp)
        rw [hx] at ex ec; rw [hix] at ei
        refine ⟨rfl, conc ρ (.ptr b _), fun w => ?_, .inr ⟨rfl, rfl, by simpa [refs] using ec⟩⟩
        simp only [execOp, ex, ei, conc, Instr.indexAt, asIntOf, Sem.run_bind, Sem.run_pure, run_underlying hu, Result.andThen_ok, hb, and_self, if_true, run_sizeOf hj, hjs, Addr.add_lit]
      · simp at hop
    · simp at hop
  | binOp op t x y t' =>
    simp only [opA] at hop
    split at hop
    · rename_i u hu
      obtain ⟨rfl, rfl, rfl⟩ := val_inj hop
      have hx : ev x ≠ .undef := by intro e; rw [e] at hu; simp [binA] at hu
      have hy : ev y ≠ .undef := by intro e; rw [e] at hu; unfold binA at hu; split at hu <;> simp_all
      have hr := fun w => run_binA (P := P) (w := w) (ρ := ρ) hT x y hu
      obtain ⟨-, r2, r3⟩ := hr default
      refine ⟨rfl, conc ρ u, fun w => ?_, .inr ⟨rfl, r2, by rw [r3]; simp⟩⟩
      simp only [execOp, ((hev x).get hx).1, ((hev y).get hy).1]
      rw [Sem.run_bind, (hr w).1]
      rfl
    · simp at hop
  | pick c x y =>
    simp only [opA] at hop
    split at hop
    · rename_i q hq
      obtain ⟨rfl, rfl, rfl⟩ := val_inj hop
      obtain ⟨hc, -, -⟩ := (hev c).get (by rw [hq]; simp)
      rw [hq, conc] at hc
      refine ⟨rfl, _, fun w => ?_, pick_ok (c := q) (hev x) (hev y)⟩
      simp only [execOp, hc, Sem.run_bind, asBool_run, Result.andThen_ok, Sem.run_pure]
    · simp at hop
  | _ => simp [lookO] at hk
theorem keepO_kept {n0 : Nat} {s : St} {o : Oper} (hk : keepO n0 s o = true) {R : Ex → St → Prop} (hg : Good (doOp T S o s) R) : Good (doOp T S o s) fun x s' => R x s' ∧ ∀ b, b < n0 → s'.mem b = s.mem b := by
  unfold keepO at hk
  simp only [Bool.and_eq_true] at hk
  obtain ⟨dst, op, type, pos, after, guard⟩ := o
  simp only at hk
  have key : ∀ v up nw, (∀ p ∈ up, n0 ≤ p.1) → n0 ≤ s.m.length ∨ nw = [] → ∀ b, b < n0 → (St.put { s with m := upM s.m up ++ nw } dst v).mem b = s.mem b := by
    intro v up nw hup hnw b hb
    rw [St.put_mem]
    show (upM s.m up ++ nw)[b]? = s.m[b]?
    have h1 : ∀ (up : List (Nat × List AV)) (m : List Blk), (∀ p ∈ up, n0 ≤ p.1) → (upM m up)[b]? = m[b]? := by
      intro up
      induction up with
      | nil => intro m _; rfl
      | cons p up ih =>
        intro m h
        obtain ⟨c, l⟩ := p
        simp only [upM]
        rw [ih _ fun p hp => h p (by simp [hp]), List.getElem?_modify]
        have : ¬ c = b := by have := h (c, l) (by simp); simp at this; omega
        simp [this]
    rcases hnw with h | rfl
    · rw [List.getElem?_append_left (by rw [upM_length]; omega), h1 up _ hup]
    · rw [List.append_nil, h1 up _ hup]
  cases op with
  | store t a x =>
    have e : doOp T S ⟨dst, .store t a x, type, pos, after, guard⟩ s = ofOR dst s (opA T s.mem s.m.length (evA s.ts) (.store t a x)) := rfl
    rw [e] at hg ⊢
    simp only [opA] at hg ⊢
    cases ha : evA s.ts a with
    | ptr b o =>
      have hk2 : n0 ≤ b := by simpa [ha] using hk.2
      rw [ha] at hg
      cases hi : T t with
      | none => rw [hi] at hg; exact hg.elim
      | some i =>
        rw [hi] at hg
        cases hm : s.mem b with
        | none => simp only [hm] at hg; exact hg.elim
        | some blk =>
          simp only [hm] at hg ⊢
          split at hg
          · rename_i hc
            rw [if_pos hc]
            cases hw : writeRow blk.items o (items (evA s.ts x)) with
            | none => rw [hw] at hg; exact hg.elim
            | some l =>
              rw [hw] at hg
              exact ⟨hg, key _ [(b, l)] [] (by simpa using hk2) (.inr rfl)⟩
          · exact hg.elim
    | _ => rw [ha] at hg; exact hg.elim
  | assign x =>
    have e : doOp T S ⟨dst, .assign x, type, pos, after, guard⟩ s = .fin .norm (St.put { s with m := upM s.m [] ++ [] } dst (evA s.ts x)) := rfl
    rw [e] at hg ⊢
    exact ⟨hg, key _ [] [] (by simp) (.inr rfl)⟩
  | _ => simp at hk
theorem qopsH_A {n0 : Nat} {F : List Nat} {ops : Array Oper} {Q : Ex → St → Prop} : ∀ (k i : Nat) (l : List Oper) (s : St), Good (qopsH T S ops n0 F i k l s) Q → Good (qopsA T S ops k l s) Q
  | 0, _, l, s, h => by
    unfold qopsA
    have key : ∀ (l : List Oper) (s : St), Good (opsK T S ops n0 l s) Q → Good (opsA T S ops l s) Q := by
      intro l
      induction l with
      | nil => exact fun s h => h
      | cons o l ih =>
        intro s h
        simp only [opsK] at h
        split at h
        · rename_i hk
          have hgd : o.guard = none := by
            unfold keepO at hk
            simp only [Bool.and_eq_true, Option.isNone_iff_eq_none] at hk
            exact hk.1
          simp only [opsA, hgd]
          rw [good_bind] at h ⊢
          exact Good.mono (fun x s q => by cases x <;> first | exact ih _ q | exact q) h
        · exact h.elim
    unfold qopsH at h
    exact key l s h
  | k + 1, i, [], s, h => h.elim
  | k + 1, i, o :: l, s, h => by
    simp only [qopsH] at h
    simp only [qopsA]
    split at h
    · split at h
      · rename_i v nw hq
        split at h
        · rename_i hr
          exact (by rw [if_pos hr]; exact qopsH_A k _ l _ h)
        · exact h.elim
      · exact h.elim
    · exact h.elim
end
section
variable {P : Program} {D : Nat → Prop} {ρ0 : Nat → Nat} {w0 : World} {T : TT} {S : ST} {ops : Array Oper} {k : Nat} {F : List Nat} {Q : Ex → St → Prop} {s : St} {st : Nat → St} {r : Nat → AV × List Blk}
theorem qopsH_trace (ht : Trace T S ops k s st r) {n0 : Nat} (hk : k ≤ ops.size) : ∀ (n j : Nat), j + n = k → Good (qopsH T S ops n0 F j n (ops.toList.drop j) (st j)) Q →
    (∀ f o, j ≤ f → f < k → f ∈ F → ops[f]? = some o → tameO n0 (st f) o = true) ∧ Good (opsK T S ops n0 (ops.toList.drop k) (st k)) Q
  | 0, j, hj, h => by
    have : j = k := by omega
    subst this
    unfold qopsH at h
    exact ⟨fun f o h1 h2 => by omega, h⟩
  | n + 1, j, hj, h => by
    have hin : j < ops.size := by omega
    have hl : ops.toList.drop j = ops[j] :: ops.toList.drop (j + 1) := by
      rw [List.drop_eq_getElem_cons (by simpa using hin)]; simp
    rw [hl] at h
    obtain ⟨o, ho, hq, -, hst⟩ := ht.step j (by omega)
    have hoj : o = ops[j] := by
      rw [Array.getElem?_eq_getElem hin] at ho
      exact (Option.some.inj ho).symm
    subst hoj
    simp only [qopsH] at h
    split at h
    · rename_i htm
      rw [hq] at h
      simp only at h
      split at h
      · rw [← hst] at h
        obtain ⟨h1, h2⟩ := qopsH_trace ht hk n (j + 1) (by omega) h
        refine ⟨fun f o hf1 hf2 hfF hof => ?_, h2⟩
        by_cases hfj : f = j
        · subst hfj
          rw [ho] at hof; cases hof
          simp only [Bool.or_eq_true, Bool.not_eq_true'] at htm
          rcases htm with htm | htm
          · rw [List.contains_iff_mem.2 hfF] at htm; simp at htm
          · exact htm
        · exact h1 f o (by omega) hf2 hfF hof
      · exact h.elim
    · exact h.elim
def chkHeld (ops : Array Oper) (k : Nat) (F : List Nat) : Bool :=
  chkDraw ops k F && Region.noSelect ops && F.all fun f => match ops[f]? with
  | some o => o.dst.isSome && lookO o.op &&
    (List.range ops.size).all fun j => j == f || ((Region.before ops).getD f 0).testBit j || match ops[j]? with
      | some p => p.after.any (fun e => Region.binds .any e && e.on == f) || o.apart ops p
      | none => true
  | none => false
theorem suffixH_ok {ρs : Nat → Nat} {ws : World} {mem mk : Mem} {n0 : Nat} (h00 : ∀ b blk, mem b = some blk → ∀ c ∈ refsL blk.items, mem c ≠ none) (hmk : ∀ b, mk b ≠ none → mk b = mem b) (hn0 : ∀ b, mk b ≠ none → b < n0) (hT : TOk P T) (hS : STok P S) (hc : Chk ops k F (Region.before ops)) :
    ∀ (fuel i : Nat) {s' : St} {ρ : Nat → Nat} {listed : Array Bool} {a : Act} {w : World}, k ≤ i → i + fuel = ops.size → listed.size = ops.size → (∀ j, Ls listed j ↔ j < i) →
    RS (fun b => mem b ≠ none) ρs ws ρ s' a w → (∀ b, mk b ≠ none → s'.mem b = mem b) → Good (opsK T S ops n0 (ops.toList.drop i) s') Q → wpAnyH P .any ops (Post (fun b => mem b ≠ none) ρs ws Q) (Stand ρs mk) fuel listed a w := by
  intro fuel
  induction fuel with
  | zero =>
    intro i s' ρ listed a w hk hi hs hl h hm hg
    refine ⟨?_, ?_⟩
    · apply List.eq_nil_iff_forall_not_mem.2
      intro j hj
      obtain ⟨hj1, o, ho, -⟩ := mem_ready.1 hj
      have := (unlisted_iff hs).1 hj1
      exact this.2 ((hl j).2 (by omega))
    · rw [List.drop_of_length_le (by simp; omega)] at hg
      exact ⟨.norm, s', ρ, h, hg, rfl⟩
  | succ fuel ih =>
    intro i s' ρ listed a w hk hi hs hl h hm hg
    have hin : i < ops.size := by omega
    have ho : ops[i]? = some ops[i] := Array.getElem?_eq_getElem hin
    have hready : i ∈ Region.ready .any ops listed := by
      rw [mem_ready]
      exact ⟨(unlisted_iff hs).2 ⟨hin, fun q => by have := (hl i).1 q; omega⟩, _, ho, fun e he hb => (hl _).2 (hc.back i _ ho e he hb)⟩
    refine ⟨fun hnil => by rw [hnil] at hready; simp at hready, fun j hj => ?_⟩
    obtain ⟨hj1, o, hjo, hjall⟩ := mem_ready.1 hj
    obtain ⟨hjn, hjl⟩ := (unlisted_iff hs).1 hj1
    have hcl : ∀ i o, ops[i]? = some o → Ls listed i → ∀ e ∈ o.after, Region.binds .any e = true → Ls listed e.on := by
      intro i' o' ho' hi' e he hb
      exact (hl _).2 (by have := hc.back i' o' ho' e he hb; have := (hl i').1 hi'; omega)
    have hji : j = i := by
      have h1 : i ≤ j := by
        rcases Nat.lt_or_ge j i with h' | h'
        · exact absurd ((hl j).2 h') hjl
        · exact h'
      rcases Nat.lt_or_ge i j with h' | h'
      · have hb := (hc.ord j o hjo i _ h' ho).resolve_right (fun q => by
        rcases q with q | q
        · omega
        · have := hc.ex i q.1; omega)
        have := closure hc hcl j o hjo hjall i hb
        have := (hl i).1 this
        omega
      · omega
    subst hji
    have hlist : ops.toList.drop j = ops[j] :: ops.toList.drop (j + 1) := by
      rw [List.drop_eq_getElem_cons (by simpa using hin)]; simp
    rw [hlist] at hg
    have hl' : ∀ i, Ls (listed.setIfInBounds j true) i ↔ i < j + 1 := by
      intro i
      rw [Ls_set hs hin, hl i]; omega
    have hs' : (listed.setIfInBounds j true).size = ops.size := by simpa using hs
    simp only [opsK] at hg
    split at hg
    · rename_i hkeep
      have hgd : ops[j].guard = none := by
        have hkeep' := hkeep
        unfold keepO at hkeep'
        simp only [Bool.and_eq_true, Option.isNone_iff_eq_none] at hkeep'
        exact hkeep'.1
      have hg2 := keepO_kept hkeep hg.bind
      unfold wpOp
      rw [ho]
      simp only []
      rw [if_pos (by simp [Region.wanted, hgd])]
      refine .inl (doOp_ok hT hS h hg2 (fun s'' ρ' a' w' h' hq _ _ => ?_) (fun e a' w' hp => ?_))
      · have hm' : ∀ b, mk b ≠ none → s''.mem b = mem b := fun b hb => (hq.2 b (hn0 b hb)).trans (hm b hb)
        exact ⟨h'.inv.stand h00 hmk hm', ih (j + 1) (by omega) (by omega) hs' hl' h' hm' hq.1⟩
      · obtain ⟨x, s', ρ', h1, h2, h3⟩ := hp
        cases x with
        | norm => exact h2.elim
        | exit id => exact ⟨_, s', ρ', h1, h2.1, h3⟩
        | ret => exact ⟨_, s', ρ', h1, h2.1, h3⟩
        | pan v => exact ⟨_, s', ρ', h1, h2.1, h3⟩
    · exact hg.elim
set_option maxHeartbeats 2000000 in
theorem draw_held {ρs : Nat → Nat} {ws : World} {n0 : Nat} {mk : Mem} (hnk : n0 ≤ s.m.length) (hmk : ∀ b, mk b = if b < n0 then s.mem b else none) (hk0 : ∀ b blk, mk b = some blk → ∀ c ∈ refsL blk.items, mk c ≠ none) (h00 : ∀ b blk, s.mem b = some blk → ∀ c ∈ refsL blk.items, s.mem c ≠ none) (hinj : ∀ b c, s.mem b ≠ none → s.mem c ≠ none → ρs b = ρs c → b = c) (hsol : ∀ b blk, s.mem b = some blk → SolidB blk.items)
    (hT : TOk P T) (hS : STok P S) (hc : Chk ops k F (Region.before ops)) (ht : Trace T S ops k s st r) (h0 : ∀ t, ∀ b ∈ refs (s.ts.getD t .undef), b < s.m.length)
    (hg : Good (opsK T S ops n0 (ops.toList.drop k) (st k)) Q) (htame : ∀ f o, f < k → f ∈ F → ops[f]? = some o → tameO n0 (st f) o = true)
    (hQ : ∀ x s, Q x s → x = .norm) (hns : Region.noSelect ops = true) (hF : ∀ f, f ∈ F → ∃ o, ops[f]? = some o ∧ o.dst.isSome = true ∧ lookO o.op = true ∧
      ∀ j oj, ops[j]? = some oj → j ≠ f → ((Region.before ops).getD f 0).testBit j = false → oj.after.any (fun e => Region.binds .any e && e.on == f) = true ∨ o.apart ops oj = true) :
    ∀ (fuel : Nat) (U : List Nat) {ρ : Nat → Nat} {listed : Array Bool} {a : Act} {w : World}, SInv (fun b => s.mem b ≠ none) ρs ws ops k s st r ρ listed a w → U.Nodup → (∀ i, i ∈ U ↔ i < ops.size ∧ ¬ Ls listed i) → U.length = fuel →
      wpAnyH P .any ops (Post (fun b => s.mem b ≠ none) ρs ws Q) (Stand ρs mk) fuel listed a w := by
  have hle := hc.le
  have mk1 : ∀ b, mk b ≠ none → b < n0 ∧ mk b = s.mem b := by
    intro b hb
    rw [hmk b] at hb
    by_cases hbn : b < n0
    · exact ⟨hbn, by rw [hmk b, if_pos hbn]⟩
    · rw [if_neg hbn] at hb; exact absurd rfl hb
  have mk2 : ∀ b, mk b ≠ none → s.mem b ≠ none := fun b hb => by rw [← (mk1 b hb).2]; exact hb
  have hn0 : ∀ b, s.mem b ≠ none → b < s.m.length := by
    intro b hb
    rcases Nat.lt_or_ge b s.m.length with h' | h'
    · exact h'
    · exact absurd (List.getElem?_eq_none h') hb
  have hmemk : ∀ (listed : Array Bool) b, b < s.m.length → memU s r (fun i => (st i).m.length) listed k b = s.mem b := by
    intro listed b hb
    rw [ht.memU_near (j := 0) (Nat.zero_le _) (by rw [ht.zero]; exact hb)]
    rfl
  have hstk : ∀ j, j ≤ k → ∀ b, b < s.m.length → (st j).mem b = s.mem b := by
    intro j
    induction j with
    | zero => intro _ b _; rw [ht.zero]
    | succ n ih =>
      intro hj b hb
      show (st (n + 1)).m[b]? = _
      have hlen : s.m.length ≤ (st n).m.length := by
        have := ht.len_mono (Nat.zero_le n) (by omega)
        rwa [ht.zero] at this
      rw [ht.m_succ (by omega), List.getElem?_append_left (by omega)]
      exact ih (by omega) b hb
  have hstand : ∀ {ρ : Nat → Nat} {listed : Array Bool} {a : Act} {w : World}, SInv (fun b => s.mem b ≠ none) ρs ws ops k s st r ρ listed a w → Stand ρs mk w := fun h => h.inv.stand h00 (fun b hb => (mk1 b hb).2) fun b hb => hmemk _ b (hn0 b (mk2 b hb))
  intro fuel
  induction fuel with
  | zero =>
    intro U ρ listed a w h hnd hU hlen
    have hUn : U = [] := List.length_eq_zero_iff.1 hlen
    subst hUn
    have hall : ∀ i, i < ops.size → Ls listed i := fun i hi => Classical.byContradiction fun q => by have := (hU i).2 ⟨hi, q⟩; simp at this
    have hk : k = ops.size := by
      rcases Nat.lt_or_ge k ops.size with h' | h'
      · have := h.nosuf k (hall k h'); omega
      · omega
    have hm : (st k).mem = memU s r (fun i => (st i).m.length) listed k := by
      funext b; exact (ht.memU_all (Nat.le_refl _) (fun i hi => hall i (by omega)) b).symm
    have hrs : RS (fun b => s.mem b ≠ none) ρs ws ρ (st k) a w := by
      refine ⟨by rw [hm]; exact h.inv, fun t => ?_, by rw [ht.tslen (Nat.le_refl _)]; exact h.sz, by rw [ht.df (Nat.le_refl _)]; exact h.defers, by rw [ht.df (Nat.le_refl _), hm]; exact h.dref⟩
      rw [hm, ← ht.tsU_eq (listed := listed) (Nat.le_refl _) fun i hi _ => hall i (by omega)]
      exact h.tmps t
    exact suffixH_ok h00 (fun b hb => (mk1 b hb).2) (fun b hb => (mk1 b hb).1) hT hS hc 0 k (Nat.le_refl _) (by omega) h.size (fun j => ⟨fun q => h.nosuf j q, fun q => hall j (by omega)⟩) hrs (fun b hb => hstk k (Nat.le_refl _) b (hn0 b (mk2 b hb))) hg
  | succ fuel ih =>
    intro U ρ listed a w h hnd hU hlen
    by_cases hex : ∃ f, f ∈ F ∧ ¬ Ls listed f ∧ ∀ o, ops[f]? = some o → ∀ e ∈ o.after, Region.binds .any e = true → Ls listed e.on
    · -- one that only looks is ready: it is taken
      obtain ⟨f, hfF, hfl, hfr⟩ := hex
      obtain ⟨o, hof, hdst, hlook, hfree⟩ := hF f hfF
      have hfr' := hfr o hof
      have hfk := hc.ex f hfF
      have hfn : f < ops.size := by omega
      have hready : f ∈ Region.ready .any ops listed := mem_ready.2 ⟨(unlisted_iff h.size).2 ⟨hfn, hfl⟩, o, hof, hfr'⟩
      have hsame : ∀ t, t ∈ o.looksAt ops → tsU s r (dstOf ops) listed k t = (st f).ts.getD t .undef := fun t hl => slots_same (i := f) hc ht h (fun _ hn => by rw [hn] at hdst; simp at hdst) hfk hof hfl hfr' hl
      obtain ⟨o', ho', hq, -, -⟩ := ht.step f hfk
      rw [hof] at ho'; cases ho'
      have hwf := ht.wf h0 (Nat.le_of_lt hfk)
      have hev : ∀ x, SR ρ (memU s r (fun i => (st i).m.length) listed k) (evF (tsU s r (dstOf ops) listed k) x) (a.eval x) := by
        intro x
        cases x with
        | tmp t => exact h.tmps t
        | const v => exact absV_spec v ρ _
        | global g => exact .inl rfl
        | func f => exact .inr ⟨rfl, rfl, by simp [evF, refs, refsL]⟩
      have hevs : ∀ x ∈ o.op.operands, evA (st f).ts x = evF (tsU s r (dstOf ops) listed k) x := by
        intro x hx
        rw [evA_eq]
        cases x with
        | tmp t => exact (hsame t (mem_looksAt hx)).symm
        | _ => rfl
      have run : doQ T S o (st f) = some (r f) → (r f).2 = [] ∧ ∃ xv, (∀ w', Stand ρs mk w' → (execOp a.eval o).run P w' = .ok (.value xv) w') ∧ SR ρ (memU s r (fun i => (st i).m.length) listed k) (r f).1 xv := by
        intro hq
        have hdo : ∃ v nw, opA T (st f).mem (st f).m.length (evA (st f).ts) o.op = .val v [] nw ∧ r f = (v, nw) := by
          unfold doQ at hq
          split at hq
          · rename_i hop; rw [hop] at hlook; simp [lookO] at hlook
          · rename_i hop; rw [hop] at hlook; simp [lookO] at hlook
          · split at hq
            · rename_i v nw hopa
              exact ⟨v, nw, hopa, (Option.some.inj hq).symm⟩
            · simp at hq
        obtain ⟨v, nw, hopa, hr⟩ := hdo
        rw [hr]
        by_cases hld : ∃ t x, o.op = .load t x
        · obtain ⟨t, x, hop⟩ := hld
          have htm := htame f o hfk hfF hof
          unfold tameO at htm
          rw [hop] at htm hopa
          simp only at htm
          cases hx : evA (st f).ts x with
          | ptr b off =>
            rw [hx] at htm
            have hbn : b < n0 := by simpa using htm
            have hb : b < s.m.length := by omega
            simp only [opA, hx] at hopa
            cases hld : loadA T (st f).mem t (.ptr b off) with
            | none => rw [hld] at hopa; simp at hopa
            | some u =>
              rw [hld] at hopa
              obtain ⟨rfl, -, rfl⟩ := val_inj hopa
              have hld' : loadA T mk t (.ptr b off) = some u := by
                simp only [loadA] at hld ⊢
                rw [hstk f (Nat.le_of_lt hfk) b hb] at hld
                rw [hmk b, if_pos hbn]
                exact hld
              have hbne : mk b ≠ none := by
                intro hbn
                simp only [loadA, hbn] at hld'
                split at hld' <;> simp_all
              have hevx := hev x
              rw [← hevs x (by rw [hop]; simp [Op.operands]), hx] at hevx
              obtain ⟨ex, -, ec⟩ := hevx.get (by simp)
              have hxs : SR ρs mk (.ptr b off) (a.eval x) := .inr ⟨by rw [ex]; simp only [conc]; rw [(h.inv.ent b (mk2 b hbne)).1], rfl, by simpa [refs] using hbne⟩
              have hrun : ∀ w', Stand ρs mk w' → _ := fun w' hst => load_ok (P := P) hT (Inv.start (w := w') (ρ := ρs) (mem := mk) hst (fun b c hb hc => hinj b c (mk2 b hb) (mk2 c hc)) fun b blk hb => ⟨hk0 b blk hb, hsol b blk (by rw [← (mk1 b (by rw [hb]; simp)).2]; exact hb)⟩) hld' hxs
              have hcv : ∀ w', Stand ρs mk w' → conc ρ u = conc ρs u := fun w' hst => conc_congr u fun c hcc => (h.inv.ent c (mk2 c ((hrun w' hst).2.2 c hcc))).1
              have hl0 := hrun w (hstand h)
              refine ⟨rfl, conc ρ u, fun w' hst => ?_, .inr ⟨rfl, hl0.2.1, fun c hcc => ?_⟩⟩
              · obtain ⟨l1, -, -⟩ := hrun w' hst
                rw [hcv w' hst]
                unfold execOp
                rw [hop]
                simp only [Sem.run_bind, l1, Result.andThen_ok, Sem.run_pure]
              · have h2 := mk2 c (hl0.2.2 c hcc)
                rw [hmemk _ c (hn0 c h2)]; exact h2
          | _ => rw [hx] at htm; simp at htm
        · have hopa' : opA T (st f).mem (st f).m.length (evF (tsU s r (dstOf ops) listed k)) o.op = .val v [] nw := by
            rw [← opA_local (mem := (st f).mem) hevs fun _ _ _ _ => rfl]; exact hopa
          obtain ⟨p1, xv, p2, p3⟩ := look_pure (P := P) hT hlook (fun t x e => hld ⟨t, x, e⟩) hev hopa'
          exact ⟨p1, xv, fun w' _ => p2 w', p3⟩
      have hyk : (r f).2 = [] ∧ ∃ xv, YieldsIf P ops (Stand ρs mk) o xv a ∧ SR ρ (memU s r (fun i => (st i).m.length) listed k) (r f).1 xv := by
        have take : Region.wanted o (yielded ops a.tmps) = true → doQ T S o (st f) = some (r f) → (r f).2 = [] ∧ ∃ xv, YieldsIf P ops (Stand ρs mk) o xv a ∧ SR ρ (memU s r (fun i => (st i).m.length) listed k) (r f).1 xv := by
          intro hw hq
          obtain ⟨r1, xv, r2, r3⟩ := run hq
          exact ⟨r1, xv, .inl ⟨hw, r2⟩, r3⟩
        have skip : Region.wanted o (yielded ops a.tmps) = false → (AV.tup [], ([] : List Blk)) = r f → (r f).2 = [] ∧ ∃ xv, YieldsIf P ops (Stand ρs mk) o xv a ∧ SR ρ (memU s r (fun i => (st i).m.length) listed k) (r f).1 xv := by
          intro hw hr
          rw [← hr]
          exact ⟨rfl, Go.undef, .inr ⟨hw, rfl⟩, .inr ⟨rfl, rfl, by simp [refs, refsL]⟩⟩
        unfold qStep at hq
        split at hq
        · rename_i hgd
          exact take (by simp [Region.wanted, hgd]) hq
        · rename_i g want hgd
          split at hq
          · rename_i hd
            have : yielded ops a.tmps g = none := by unfold yielded; rw [hd]; rfl
            exact skip (by simp [Region.wanted, hgd, this]) (by simpa using hq)
          · rename_i d hd
            have hsd := hsame d (mem_looksAt_guard hgd hd)
            have hval := h.tmps d
            rw [hsd] at hval
            have hlt : (st f).ts.getD d .undef ≠ .undef → a.tmps[d]? = some (a.tmps.getD d Go.undef) := by
              intro hne
              have : d < (st f).ts.length := by
                rcases Nat.lt_or_ge d (st f).ts.length with h' | h'
                · exact h'
                · rw [List.getD_eq_getElem?_getD, List.getElem?_eq_none h'] at hne; simp at hne
              have h2 : d < a.tmps.size := by rw [h.sz, ← ht.tslen (Nat.le_of_lt hfk)]; exact this
              simp [h2]
            split at hq
            · rename_i b hb
              have h1 := hlt (by rw [hb]; simp)
              rw [hb] at hval
              obtain ⟨e, -, -⟩ := hval.get (by simp)
              have hy : yielded ops a.tmps g = some b := by
                unfold yielded
                rw [hd, Option.bind_some, h1, e]
                rfl
              split at hq
              · rename_i hbw
                exact take (by simp [Region.wanted, hgd, hy, hbw]) hq
              · rename_i hbw
                exact skip (by simp [Region.wanted, hgd, hy, hbw]) (by simpa using hq)
            · simp at hq
            · rename_i hnb hnu
              have h1 := hlt hnu
              obtain ⟨e, -, -⟩ := hval.get hnu
              have hy : yielded ops a.tmps g = none := by
                unfold yielded
                rw [hd, Option.bind_some, h1, e]
                cases hv : (st f).ts.getD d .undef <;> first
                  | (exact absurd hv (hnb _))
                  | (exact absurd hv hnu)
                  | rfl
              exact skip (by simp [Region.wanted, hgd, hy]) (by simpa using hq)
      obtain ⟨hnw, xv, hy, hsr⟩ := hyk
      have hnext := h.next hc ht hfk hof hfl hfr' (ρ' := ρ) (x := xv) (w' := w)
        (fun t _ => by rw [hnw, memNew_nil]; exact hsr)
        (by rw [hnw, memNew_nil]; exact h.inv) (by rw [hnw, memNew_nil]; exact Later.refl _ _)
      have hmem : f ∈ U := (hU f).2 ⟨hfn, hfl⟩
      have hrest := ih (U.erase f) hnext (hnd.erase f) (fun j => by
        rw [hnd.mem_erase_iff, hU j, Ls_set h.size hfn]
        constructor
        · rintro ⟨h1, h2, h3⟩; exact ⟨h2, fun q => q.elim h1 h3⟩
        · rintro ⟨h1, h2⟩; exact ⟨fun e => h2 (.inl e), h1, fun q => h2 (.inr q)⟩) (by rw [List.length_erase_of_mem hmem]; omega)
      refine wpAnyH_first hof (Region.noSelect_spec hns) (fun c a w hp => ?_) fuel listed a w (fun j oj hj hne hun hno => ?_) hready hy (hstand h) hrest
      · obtain ⟨z, s', ρ', -, h2, h3⟩ := hp
        have := hQ _ _ h2
        subst this
        simp at h3
      · cases hb : ((Region.before ops).getD f 0).testBit j with
        | true =>
          have hlj := closure hc h.closed f o hof hfr' j hb
          exact absurd hlj ((unlisted_iff h.size).1 hun).2
        | false =>
          rcases hfree j oj hj hne hb with h' | h'
          · obtain ⟨e, he, hb'⟩ := Array.any_eq_true'.1 h'
            simp only [Bool.and_eq_true, beq_iff_eq] at hb'
            exact absurd hb'.2 (hno e he hb'.1)
          · exact h'
    · by_cases hpre : ∀ i, i < k → Ls listed i
      · have hm : (st k).mem = memU s r (fun i => (st i).m.length) listed k := by
          funext b; exact (ht.memU_all (Nat.le_refl _) (fun i hi => hpre i hi) b).symm
        have hrs : RS (fun b => s.mem b ≠ none) ρs ws ρ (st k) a w := by
          refine ⟨by rw [hm]; exact h.inv, fun t => ?_, by rw [ht.tslen (Nat.le_refl _)]; exact h.sz, by rw [ht.df (Nat.le_refl _)]; exact h.defers, by rw [ht.df (Nat.le_refl _), hm]; exact h.dref⟩
          rw [hm, ← ht.tsU_eq (listed := listed) (Nat.le_refl _) fun i hi _ => hpre i hi]
          exact h.tmps t
        have hl : ∀ j, Ls listed j ↔ j < k := fun j => ⟨fun q => h.nosuf j q, fun q => hpre j q⟩
        have hperm : U.Perm (List.range' k (ops.size - k)) := by
          have hnr : (List.range' k (ops.size - k)).Nodup := List.nodup_range'
          rw [List.perm_ext_iff_of_nodup hnd hnr]
          intro i
          rw [hU i, hl i, List.mem_range'_1]
          omega
        have hln := hperm.length_eq
        rw [List.length_range', hlen] at hln
        exact suffixH_ok h00 (fun b hb => (mk1 b hb).2) (fun b hb => (mk1 b hb).1) hT hS hc (fuel + 1) k (Nat.le_refl _) (by omega) h.size hl hrs (fun b hb => hstk k (Nat.le_refl _) b (hn0 b (mk2 b hb))) hg
      · -- the least unlisted is ready
        have hex2 : ∃ i, i < k ∧ ¬ Ls listed i := Classical.byContradiction fun q => hpre fun i hi => Classical.byContradiction fun q2 => q ⟨i, hi, q2⟩
        have hmin : ∀ n i, i ≤ n → i < k → ¬ Ls listed i → ∃ j, j ∈ Region.ready .any ops listed := by
          intro n
          induction n with
          | zero =>
            intro i hin hik hil
            have : i = 0 := by omega
            subst this
            have hp : ops[0]? = some ops[0] := Array.getElem?_eq_getElem (by omega)
            exact ⟨0, mem_ready.2 ⟨(unlisted_iff h.size).2 ⟨by omega, hil⟩, _, hp, fun e he hb => by have := hc.back 0 _ hp e he hb; omega⟩⟩
          | succ n ihn =>
            intro i hin hik hil
            by_cases hlow : ∃ j, j < i ∧ ¬ Ls listed j
            · obtain ⟨j, hj, hjl⟩ := hlow
              exact ihn j (by omega) (by omega) hjl
            · have hp : ops[i]? = some ops[i] := Array.getElem?_eq_getElem (by omega)
              exact ⟨i, mem_ready.2 ⟨(unlisted_iff h.size).2 ⟨by omega, hil⟩, _, hp, fun e he hb => Classical.byContradiction fun q => hlow ⟨e.on, hc.back i _ hp e he hb, q⟩⟩⟩
        obtain ⟨i0, hi0, hl0⟩ := hex2
        obtain ⟨j0, hj0⟩ := hmin i0 i0 (Nat.le_refl _) hi0 hl0
        refine ⟨fun hnil => by rw [hnil] at hj0; simp at hj0, fun i hir => ?_⟩
        obtain ⟨hi1, oi, ho, hall⟩ := mem_ready.1 hir
        obtain ⟨hin, hun⟩ := (unlisted_iff h.size).1 hi1
        have hiF : i ∉ F := fun q => hex ⟨i, q, hun, fun o' ho' => by rw [ho] at ho'; cases ho'; exact hall⟩
        have hik : i < k := by
          rcases Nat.lt_or_ge i k with h' | h'
          · exact h'
          · exfalso
            have hlow : ∀ j, j < k → j ∉ F → Ls listed j := by
              intro j hj hjf
              have hp : ops[j]? = some ops[j] := Array.getElem?_eq_getElem (by omega)
              have hb := (hc.ord i oi ho j _ (by omega) hp).resolve_right (fun q => by
                rcases q with q | q
                · omega
                · exact hjf q.1)
              exact closure hc h.closed i oi ho hall j hb
            have hallk : ∀ n j, j ≤ n → j < k → Ls listed j := by
              intro n
              induction n with
              | zero =>
                intro j hj hjk
                have : j = 0 := by omega
                subst this
                exact Classical.byContradiction fun q => by
                  by_cases hjF : 0 ∈ F
                  · exact hex ⟨0, hjF, q, fun o' ho' e he hb => by have := hc.back 0 o' ho' e he hb; omega⟩
                  · exact q (hlow 0 hjk hjF)
              | succ n ihn =>
                intro j hj hjk
                exact Classical.byContradiction fun q => by
                  by_cases hjF : j ∈ F
                  · exact hex ⟨j, hjF, q, fun o' ho' e he hb => by have := hc.back j o' ho' e he hb; exact ihn _ (by omega) (by omega)⟩
                  · exact q (hlow j hjk hjF)
            exact hl0 (hallk i0 i0 (Nat.le_refl _) hi0)
        unfold wpOp
        rw [ho]
        refine qStep_ok hT hS hc ht h0 h (fun e => absurd e hiF) hik ho hun hall fun ρ' a' w' h' => ?_
        have hmem : i ∈ U := (hU i).2 ⟨hin, hun⟩
        refine ⟨hstand h', ih (U.erase i) h' (hnd.erase i) (fun j => ?_) (by rw [List.length_erase_of_mem hmem]; omega)⟩
        rw [hnd.mem_erase_iff, hU j, Ls_set h.size hin]
        constructor
        · rintro ⟨h1, h2, h3⟩; exact ⟨h2, fun q => q.elim h1 h3⟩
        · rintro ⟨h1, h2⟩; exact ⟨fun e => h2 (.inl e), h1, fun q => h2 (.inr q)⟩
theorem held_any (n0 : Nat) (hn0 : n0 = s.m.length ∨ n0 = 0) (hm : P.follows .mixedOrders = true) (hT : TOk P T) (hS : STok P S) {id : Nat} (hchk : chkHeld ops k F = true) {ρ : Nat → Nat} {a : Act} {w : World} (h : RS D ρ0 w0 ρ s a w) (hg : Good (normOnly (qopsH T S ops n0 F 0 k ops.toList s)) Q) :
    (Code.region id ops true).wp P (Post D ρ0 w0 Q) a w := by
  simp only [chkHeld, Bool.and_eq_true, List.all_eq_true] at hchk
  obtain ⟨⟨c1, c2⟩, c3⟩ := hchk
  have hc := chk_spec c1
  have h' : RS (fun b => s.mem b ≠ none) ρ w ρ s a w := ⟨Inv.start h.inv.row h.inv.inj h.inv.ref, h.tmps, h.size, h.defers, h.dref⟩
  have hgn := hg.norm
  obtain ⟨st, r, ht, h0, -, hs⟩ := draw_start hc h' (qopsH_A k 0 _ _ hgn)
  have hno : ∀ j, ¬ Ls (Array.replicate ops.size false) j := by
    intro j
    unfold Ls
    by_cases hj : j < ops.size <;> simp [hj]
  obtain ⟨t1, t2⟩ := qopsH_trace (F := F) ht hc.le k 0 (by omega) (by rw [ht.zero]; simpa using hgn)
  have hF : ∀ f, f ∈ F → ∃ o, ops[f]? = some o ∧ o.dst.isSome = true ∧ lookO o.op = true ∧
      ∀ j oj, ops[j]? = some oj → j ≠ f → ((Region.before ops).getD f 0).testBit j = false → oj.after.any (fun e => Region.binds .any e && e.on == f) = true ∨ o.apart ops oj = true := by
    intro f hf
    have h3 := c3 f hf
    cases hof : ops[f]? with
    | none => rw [hof] at h3; simp at h3
    | some o =>
      rw [hof] at h3
      simp only [Bool.and_eq_true] at h3
      obtain ⟨⟨o2, o3⟩, o4⟩ := h3
      refine ⟨o, rfl, o2, o3, fun j oj hj hne hb => ?_⟩
      have h1 := List.all_eq_true.1 o4 j (List.mem_range.2 (Array.getElem?_eq_some_iff.1 hj).1)
      rw [hj] at h1
      simp only [Bool.or_eq_true, beq_iff_eq, hne, false_or, hb, Bool.false_eq_true] at h1
      exact h1
  have hlen : ∀ b, s.mem b ≠ none → b < s.m.length := by
    intro b hb
    rcases Nat.lt_or_ge b s.m.length with h' | h'
    · exact h'
    · exact absurd (List.getElem?_eq_none h') hb
  have hall := draw_held (n0 := n0) (mk := fun b => if b < n0 then s.mem b else none) (by rcases hn0 with h | h <;> omega) (fun _ => rfl) (by
    rcases hn0 with rfl | rfl
    · intro b blk hb c hc
      split at hb
      · have := (h.inv.ref b blk hb).1 c hc
        rw [if_pos (hlen c this)]; exact this
      · simp at hb
    · intro b blk hb; simp at hb) (fun b blk hb => (h.inv.ref b blk hb).1) h.inv.inj (fun b blk hb => (h.inv.ref b blk hb).2) hT hS hc ht h0 t2 (fun f o hf hfF hof => t1 f o (Nat.zero_le _) hf hfF hof) (fun x s q => q.1) c2 hF ops.size (List.range ops.size) hs List.nodup_range (fun i => by simp [hno i]) (by simp)
  exact wp_mono (wp_region_any hm (wpAny_of_held _ _ _ _ hall)) fun e a' w' hp => (hp.mono fun x s hq => hq.2).then h.inv
theorem held_sound (hm : P.follows .mixedOrders = true) (hT : TOk P T) (hS : STok P S) {id : Nat} (hchk : chkHeld ops k F = true) {ρ : Nat → Nat} {a : Act} {w : World} (h : RS D ρ0 w0 ρ s a w) (hg : Good (normOnly (qopsH T S ops s.m.length F 0 k ops.toList s)) Q) :
    (Code.region id ops true).wp P (Post D ρ0 w0 Q) a w := held_any _ (.inl rfl) hm hT hS hchk h hg
theorem calm_sound (hm : P.follows .mixedOrders = true) (hT : TOk P T) (hS : STok P S) {id : Nat} (hchk : chkHeld ops k F = true) {ρ : Nat → Nat} {a : Act} {w : World} (h : RS D ρ0 w0 ρ s a w) (hg : Good (normOnly (qopsH T S ops 0 F 0 k ops.toList s)) Q) :
    (Code.region id ops true).wp P (Post D ρ0 w0 Q) a w := held_any _ (.inr rfl) hm hT hS hchk h hg
end
def chkD (ops : Array Oper) : Option DM → Bool
  | none => chkDraw ops ops.size []
  | some (.quiet k) => chkDraw ops k []
  | some (.flo k f) => chkFlo ops k f
  | some (.orders l) => chkO ops l ops.size (Array.replicate ops.size false) []
  | some (.eager k f) => chkEag ops k f
  | some (.held k F) => chkHeld ops k F
  | some (.calm k F) => chkHeld ops k F
  | some (.dag g) => chkG ops g
theorem draw_sound {P : Program} (hm : P.follows .mixedOrders = true) : DrawSound P chkD := by
  intro D ρ0 w0 T S hT hS ops d id hchk Q s ρ a w h hg
  match d with
  | none => exact draw_plain hm hT hS hchk h hg
  | some (.quiet k) => exact draw_plain hm hT hS hchk h hg
  | some (.flo k f) => exact flo_sound hm hT hS hchk h hg
  | some (.orders l) => exact orders_sound hm hT hS hchk h hg
  | some (.eager k f) => exact eager_sound hm hT hS hchk h hg
  | some (.held k F) => exact held_sound hm hT hS hchk h hg
  | some (.calm k F) => exact calm_sound hm hT hS hchk h hg
  | some (.dag g) => exact dag_sound hm hT hS hchk h hg
end Go.X
end

section
namespace Go.X
def glob (θ : List Nat) (nxt : Nat) (keep : List Nat) (i : Nat) : Nat := if i < θ.length then θ.getD i 0 else nxt + keep.idxOf i
def glB (θ : List Nat) (nxt : Nat) (keep : List Nat) (b : Blk) : Blk := ⟨renL (glob θ nxt keep) b.items, b.ty⟩
def upOf (θ : List Nat) (nxt : Nat) (keep : List Nat) (m' : List Blk) : Option Nat → List (Nat × List AV)
  | none => []
  | some i => [(θ.getD i 0, renL (glob θ nxt keep) (m'.getD i default).items)]
structure Told (θ : List Nat) (m0 m' : List Blk) (nxt : Nat) (keep : List Nat) (chg : Option Nat) (v : AV) (r : CR) : Prop where
  res : r = .val (v.ren (glob θ nxt keep)) (upOf θ nxt keep m' chg) (keep.map fun q => glB θ nxt keep (m'.getD q default))
  nodup : keep.Nodup
  new : ∀ q ∈ keep, θ.length ≤ q ∧ q < m'.length
  long : θ.length ≤ m'.length
  same : ∀ i, i < θ.length → chg ≠ some i → m'[i]? = m0[i]?
  chgd : ∀ i, chg = some i → i < θ.length ∧ (m'.getD i default).ty = (m0.getD i default).ty
  vref : ∀ b ∈ refs v, b < θ.length ∨ b ∈ keep
  mref : ∀ q, (q < θ.length ∨ q ∈ keep) → ∀ b ∈ refsL (m'.getD q default).items, b < θ.length ∨ b ∈ keep
  ok : v ≠ .undef
structure Laid (env : Mem) (args args0 : List AV) (θ : List Nat) (m0 : List Blk) : Prop where
  args : args = renL (fun i => θ.getD i 0) args0
  len : m0.length = θ.length
  nodup : θ.Nodup
  aref : ∀ b ∈ refsL args0, b < θ.length
  blk : ∀ i, i < θ.length → env (θ.getD i 0) = some ⟨renL (fun i => θ.getD i 0) (m0.getD i default).items, (m0.getD i default).ty⟩
  bref : ∀ i, i < θ.length → ∀ b ∈ refsL (m0.getD i default).items, b < θ.length
def ToldR (θ : List Nat) (m0 : List Blk) (nxt : Nat) (r : CR) (v : AV) (m' : List Blk) : Prop :=
  match r with
  | .any k => ∃ n keep chg, Told θ m0 m' nxt keep chg v (k n)
  | r => ∃ keep chg, Told θ m0 m' nxt keep chg v r
theorem getD_get {α : Type} [Inhabited α] {l : List α} {i : Nat} (h : i < l.length) : l[i]? = some (l.getD i default) := by
  simp [List.getD_eq_getElem?_getD, List.getElem?_eq_getElem h]
section
variable {P : Program} {D : Nat → Prop} {ρ0 ρ : Nat → Nat} {w0 w : World} {mem : Mem} {T : TT} {S : ST}
theorem nodup_inj {l : List Nat} (h : l.Nodup) {i j : Nat} (hi : i < l.length) (hj : j < l.length) (e : l.getD i 0 = l.getD j 0) : i = j := by
  simp only [List.getD_eq_getElem?_getD, List.getElem?_eq_getElem hi, List.getElem?_eq_getElem hj, Option.getD_some] at e
  rcases Nat.lt_trichotomy i j with hij | hij | hij
  · exact absurd e (List.pairwise_iff_getElem.1 h i j hi hj hij)
  · exact hij
  · exact absurd e.symm (List.pairwise_iff_getElem.1 h j i hj hi hij)
theorem Laid.start {env : Mem} {args args0 : List AV} {θ : List Nat} {m0 : List Blk} (hl : Laid env args args0 θ m0) (henv : ∀ b blk, env b = some blk → mem b = some blk) (hi : Inv D ρ0 w0 ρ mem w) :
    Inv (fun b => (fun b => m0[b]? : Mem) b ≠ none) (fun i => ρ (θ.getD i 0)) w (fun i => ρ (θ.getD i 0)) (fun b => m0[b]?) w := by
  have hlt : ∀ b, (fun b => m0[b]? : Mem) b ≠ none → b < θ.length := by
    intro b hb
    rcases Nat.lt_or_ge b θ.length with h' | h'
    · exact h'
    · exact absurd (List.getElem?_eq_none (by rw [hl.len]; exact h')) hb
  refine Inv.start ?_ ?_ ?_
  · intro b blk hb
    have hbl := hlt b (by show m0[b]? ≠ none; rw [show m0[b]? = some blk from hb]; simp)
    have hg := getD_get (l := m0) (i := b) (by rw [hl.len]; exact hbl)
    rw [show m0[b]? = some blk from hb] at hg
    have he := henv _ _ (hl.blk b hbl)
    rw [← Option.some.inj hg] at he
    have := hi.row _ _ he
    rw [objOf_ren] at this
    exact this
  · intro b c hb hc e
    have hbl := hlt b hb
    have hcl := hlt c hc
    exact nodup_inj hl.nodup hbl hcl (hi.inj _ _ (by rw [henv _ _ (hl.blk b hbl)]; simp) (by rw [henv _ _ (hl.blk c hcl)]; simp) e)
  · intro b blk hb
    have hbl := hlt b (by show m0[b]? ≠ none; rw [show m0[b]? = some blk from hb]; simp)
    have hg := getD_get (l := m0) (i := b) (by rw [hl.len]; exact hbl)
    rw [show m0[b]? = some blk from hb] at hg
    have hgs := Option.some.inj hg
    refine ⟨fun c hc => ?_, ?_⟩
    · rw [hgs] at hc
      have := hl.bref b hbl c hc
      show m0[c]? ≠ none
      rw [getD_get (l := m0) (by rw [hl.len]; exact this)]; simp
    · have he := henv _ _ (hl.blk b hbl)
      have := (hi.ref _ _ he).2
      rw [hgs]; exact SolidB_ren.1 this
theorem told_post {env : Mem} {args args0 : List AV} {θ : List Nat} {m0 m' : List Blk} {nxt : Nat} {keep : List Nat} {chg : Option Nat} {v : AV} {r : CR} (hl : Laid env args args0 θ m0) (henv : ∀ b blk, env b = some blk → mem b = some blk)
    (hi : Inv D ρ0 w0 ρ mem w) (ht : Told θ m0 m' nxt keep chg v r) (hfr : ∀ j, j < keep.length → mem (nxt + j) = none) {ρ' : Nat → Nat} {w' : World} (hv : okv v = true) (hvr : ∀ c ∈ refs v, (fun b => m'[b]? : Mem) c ≠ none)
    (hk : Inv (fun b => (fun b => m0[b]? : Mem) b ≠ none) (fun i => ρ (θ.getD i 0)) w ρ' (fun b => m'[b]?) w') : CRpost D ρ0 w0 ρ mem nxt r (.returned (conc ρ' v)) w' := by
  have hmem : ∀ i, i < θ.length → mem (θ.getD i 0) ≠ none := fun i h => by rw [henv _ _ (hl.blk i h)]; simp
  have hent : ∀ i, i < θ.length → ρ' i = ρ (θ.getD i 0) := fun i h => (hk.ent i (by show m0[i]? ≠ none; rw [getD_get (l := m0) (by rw [hl.len]; exact h)]; simp)).1
  let ρ2 : Nat → Nat := fun b => if nxt ≤ b ∧ b < nxt + keep.length then ρ' (keep.getD (b - nxt) 0) else ρ b
  have hold : ∀ b, mem b ≠ none → ρ2 b = ρ b := by
    intro b hb
    show (if _ then _ else _) = _
    rw [if_neg]
    rintro ⟨h1, h2⟩
    have := hfr (b - nxt) (by omega)
    rw [show nxt + (b - nxt) = b from by omega] at this
    exact hb this
  have hg : ∀ b, (b < θ.length ∨ b ∈ keep) → ρ2 (glob θ nxt keep b) = ρ' b := by
    intro b hb
    unfold glob
    by_cases h : b < θ.length
    · rw [if_pos h, hold _ (hmem b h), hent b h]
    · rw [if_neg h]
      have hbk := hb.resolve_left h
      have hix : keep.idxOf b < keep.length := List.idxOf_lt_length_of_mem hbk
      show (if _ then _ else _) = _
      rw [if_pos (by omega)]
      rw [show nxt + keep.idxOf b - nxt = keep.idxOf b from by omega, List.getD_eq_getElem?_getD, List.getElem?_eq_getElem hix, Option.getD_some, List.getElem_idxOf hix]
  have hcv : conc ρ2 (v.ren (glob θ nxt keep)) = conc ρ' v := by
    rw [conc_ren]; exact conc_congr v fun b hb => hg b (ht.vref b hb)
  have hcm : ∀ q, (q < θ.length ∨ q ∈ keep) → concC ρ2 (renL (glob θ nxt keep) (m'.getD q default).items) = concC ρ' (m'.getD q default).items := by
    intro q hq
    rw [concC_ren]; exact concC_congr _ fun b hb => hg b (ht.mref q hq b hb)
  have hob : ∀ q, (q < θ.length ∨ q ∈ keep) → ∀ t, t = (m'.getD q default).ty → objOf ρ2 ⟨renL (glob θ nxt keep) (m'.getD q default).items, t⟩ = objOf ρ' (m'.getD q default) := by
    intro q hq t ht'
    subst ht'
    rw [objOf_ren]; exact objOf_congr fun b hb => hg b (ht.mref q hq b hb)
  obtain ⟨up, hup⟩ : ∃ up : List (Nat × List AV), up = upOf θ nxt keep m' chg := ⟨_, rfl⟩
  obtain ⟨nw, hnw⟩ : ∃ nw : List Blk, nw = keep.map fun q => glB θ nxt keep (m'.getD q default) := ⟨_, rfl⟩
  have hnl : nw.length = keep.length := by rw [hnw, List.length_map]
  have hup1 : ∀ b, (∀ i, chg = some i → b ≠ θ.getD i 0) → memUp mem up b = mem b := by
    intro b hb
    rw [hup]
    cases chg with
    | none => rfl
    | some i => simp only [upOf, memUp]; rw [if_neg (hb i rfl)]
  have hup2 : ∀ i, chg = some i → memUp mem up (θ.getD i 0) = some ⟨renL (glob θ nxt keep) (m'.getD i default).items, (m0.getD i default).ty⟩ := by
    intro i hci
    rw [hup]
    subst hci
    simp only [upOf, memUp, if_true]
    rw [henv _ _ (hl.blk i (ht.chgd i rfl).1)]
    rfl
  have hdom : ∀ b, memUp mem up b ≠ none ↔ mem b ≠ none := by
    intro b
    by_cases hb : ∃ i, chg = some i ∧ b = θ.getD i 0
    · obtain ⟨i, h1, rfl⟩ := hb
      rw [hup2 i h1]
      exact ⟨fun _ => hmem i (ht.chgd i h1).1, fun _ => by simp⟩
    · rw [hup1 b fun i h e => hb ⟨i, h, e⟩]
  have hnew : ∀ j, j < keep.length → memNew (memUp mem up) nxt nw (nxt + j) = some (glB θ nxt keep (m'.getD (keep.getD j 0) default)) := by
    intro j hj
    unfold memNew
    rw [if_pos (by omega), show nxt + j - nxt = j from by omega, hnw, List.getElem?_map, List.getElem?_eq_getElem hj, List.getD_eq_getElem?_getD (l := keep), List.getElem?_eq_getElem hj]
    rfl
  have hnot : ∀ b, mem b ≠ none → memNew (memUp mem up) nxt nw b = memUp mem up b := by
    intro b hb
    unfold memNew
    rw [if_neg]
    rintro ⟨h1, h2⟩
    have := hfr (b - nxt) (by omega)
    rw [show nxt + (b - nxt) = b from by omega] at this
    exact hb this
  have hcase : ∀ b, memNew (memUp mem up) nxt nw b ≠ none → (∃ j, j < keep.length ∧ b = nxt + j) ∨ mem b ≠ none := by
    intro b hb
    by_cases h : nxt ≤ b ∧ b < nxt + keep.length
    · exact .inl ⟨b - nxt, by omega, by omega⟩
    · right
      unfold memNew at hb
      rw [if_neg (by omega)] at hb
      exact (hdom b).1 hb
  have hkey : ∀ j, j < keep.length → keep.getD j 0 ∈ keep := by
    intro j hj
    rw [List.getD_eq_getElem?_getD, List.getElem?_eq_getElem hj]
    exact List.getElem_mem hj
  have hρnew : ∀ j, j < keep.length → ρ2 (nxt + j) = ρ' (keep.getD j 0) := by
    intro j hj
    show (if _ then _ else _) = _
    rw [if_pos (by omega), show nxt + j - nxt = j from by omega]
  have hlive : ∀ q, q < m'.length → (fun b => m'[b]? : Mem) q = some (m'.getD q default) := fun q hq => getD_get hq
  have hglob : ∀ b, (b < θ.length ∨ b ∈ keep) → memNew (memUp mem up) nxt nw (glob θ nxt keep b) ≠ none := by
    intro b hb
    unfold glob
    by_cases h : b < θ.length
    · rw [if_pos h, hnot _ (hmem b h)]; exact (hdom _).2 (hmem b h)
    · rw [if_neg h, hnew _ (List.idxOf_lt_length_of_mem (hb.resolve_left h))]; simp
  have hrefs : ∀ q, (q < θ.length ∨ q ∈ keep) → ∀ c ∈ refsL (renL (glob θ nxt keep) (m'.getD q default).items), memNew (memUp mem up) nxt nw c ≠ none := by
    intro q hq c hc
    rw [refsL_ren, List.mem_map] at hc
    obtain ⟨b, hb, rfl⟩ := hc
    exact hglob b (ht.mref q hq b hb)
  have hsolid : ∀ q, q < m'.length → SolidB (m'.getD q default).items := fun q hq => (hk.ref q _ (hlive q hq)).2
  have hfar : ∀ b, mem b ≠ none → (∀ i, i < θ.length → b ≠ θ.getD i 0) → w'.heap[ρ b]? = w.heap[ρ b]? := by
    intro b hb hne
    refine hk.old _ (hi.lt hb) fun i hiD e => ?_
    have hil : i < θ.length := by
      rcases Nat.lt_or_ge i θ.length with h' | h'
      · exact h'
      · exact absurd (List.getElem?_eq_none (by rw [hl.len]; exact h')) hiD
    exact hne i hil (hi.inj _ _ hb (hmem i hil) e.symm)
  have hin : ∀ i, i < θ.length → w'.heap[ρ (θ.getD i 0)]? = some (objOf ρ' (m'.getD i default)) := by
    intro i h
    rw [← hent i h]
    exact hk.row i _ (hlive i (Nat.lt_of_lt_of_le h ht.long))
  rw [ht.res, ← hup, ← hnw]
  refine ⟨ρ2, conc ρ' v, rfl, .inr ⟨hcv.symm, by rw [okv_ren]; exact hv, ?_⟩, ?_, ⟨?_, ?_, ?_, ?_, ?_, hk.os.trans hi.os, hk.tape.trans hi.tape, hk.output.trans hi.output, Nat.le_trans hi.size hk.size, ?_⟩, ?_⟩
  · intro c hc
    rw [refs_ren, List.mem_map] at hc
    obtain ⟨b, hb, rfl⟩ := hc
    exact hglob b (ht.vref b hb)
  · cases v <;> simp [AV.ren]
    exact ht.ok rfl
  · -- rows
    intro b blk hb
    have hne : memNew (memUp mem up) nxt nw b ≠ none := by rw [hb]; simp
    rcases hcase b hne with ⟨j, hj, rfl⟩ | hbm
    · rw [hnew j hj] at hb
      cases hb
      rw [hρnew j hj]
      have hq := ht.new _ (hkey j hj)
      simp only [glB]
      rw [hob _ (.inr (hkey j hj)) _ rfl]
      exact hk.row _ _ (hlive _ hq.2)
    · rw [hnot b hbm] at hb
      rw [hold b hbm]
      by_cases hθ : ∃ i, i < θ.length ∧ b = θ.getD i 0
      · obtain ⟨i, h, rfl⟩ := hθ
        rw [hin i h]
        by_cases hci : chg = some i
        · rw [hup2 i hci] at hb
          cases hb
          rw [hob i (.inl h) _ (ht.chgd i hci).2.symm]
        · rw [hup1 _ fun i' h' e => hci (by have := nodup_inj hl.nodup h (ht.chgd i' h').1 e; subst this; exact h')] at hb
          rw [henv _ _ (hl.blk i h)] at hb
          cases hb
          have hs := ht.same i h hci
          have hm' : m'.getD i default = m0.getD i default := by simp only [List.getD_eq_getElem?_getD, hs]
          rw [hm', objOf_ren]
          exact congrArg some (objOf_congr fun c hc => by
            rw [hent c (hl.bref i h c hc)]
            exact (hold _ (hmem c (hl.bref i h c hc))).symm)
      · have hne' : ∀ i, i < θ.length → b ≠ θ.getD i 0 := fun i h e => hθ ⟨i, h, e⟩
        rw [hup1 b fun i h e => hne' i (ht.chgd i h).1 e] at hb
        rw [hfar b hbm hne', hi.row b blk hb, objOf_congr fun c hc => (hold c ((hi.ref b blk hb).1 c hc)).symm]
  · -- no two alike
    intro b c hb hc e
    rcases hcase b hb with ⟨j, hj, rfl⟩ | hbm <;> rcases hcase c hc with ⟨j2, hj2, rfl⟩ | hcm2
    · rw [hρnew j hj, hρnew j2 hj2] at e
      have h1 := (ht.new _ (hkey j hj)).2
      have h2 := (ht.new _ (hkey j2 hj2)).2
      have := hk.inj _ _ (by show m'[_]? ≠ none; rw [getD_get h1]; simp) (by show m'[_]? ≠ none; rw [getD_get h2]; simp) e
      have := nodup_inj ht.nodup hj hj2 this
      omega
    · exfalso
      rw [hρnew j hj, hold c hcm2] at e
      have h1 := ht.new _ (hkey j hj)
      have hge := hk.new (keep.getD j 0) (by show m'[_]? ≠ none; rw [getD_get h1.2]; simp) (fun q => by
        have : m0[keep.getD j 0]? = none := List.getElem?_eq_none (by rw [hl.len]; exact h1.1)
        exact q this)
      have := hi.lt hcm2
      omega
    · exfalso
      rw [hρnew j2 hj2, hold b hbm] at e
      have h1 := ht.new _ (hkey j2 hj2)
      have hge := hk.new (keep.getD j2 0) (by show m'[_]? ≠ none; rw [getD_get h1.2]; simp) (fun q => by
        have : m0[keep.getD j2 0]? = none := List.getElem?_eq_none (by rw [hl.len]; exact h1.1)
        exact q this)
      have := hi.lt hbm
      omega
    · rw [hold b hbm, hold c hcm2] at e
      exact hi.inj b c hbm hcm2 e
  · -- what they name
    intro b blk hb
    have hne : memNew (memUp mem up) nxt nw b ≠ none := by rw [hb]; simp
    have hmon : ∀ c, mem c ≠ none → memNew (memUp mem up) nxt nw c ≠ none := fun c hc => by rw [hnot c hc]; exact (hdom c).2 hc
    rcases hcase b hne with ⟨j, hj, rfl⟩ | hbm
    · rw [hnew j hj] at hb
      cases hb
      simp only [glB]
      exact ⟨hrefs _ (.inr (hkey j hj)), SolidB_ren.2 (hsolid _ (ht.new _ (hkey j hj)).2)⟩
    · rw [hnot b hbm] at hb
      by_cases hci : ∃ i, chg = some i ∧ b = θ.getD i 0
      · obtain ⟨i, h1, rfl⟩ := hci
        rw [hup2 i h1] at hb
        cases hb
        simp only
        have h := (ht.chgd i h1).1
        exact ⟨hrefs i (.inl h), SolidB_ren.2 (hsolid i (Nat.lt_of_lt_of_le h ht.long))⟩
      · rw [hup1 b fun i h e => hci ⟨i, h, e⟩] at hb
        exact ⟨fun c hc => hmon c ((hi.ref b blk hb).1 c hc), (hi.ref b blk hb).2⟩
  · intro b hb
    obtain ⟨h1, h2⟩ := hi.ent b hb
    exact ⟨(hold b h2).trans h1, by rw [hnot b h2]; exact (hdom b).2 h2⟩
  · intro b hb hD
    rcases hcase b hb with ⟨j, hj, rfl⟩ | hbm
    · rw [hρnew j hj]
      have h1 := ht.new _ (hkey j hj)
      have hge := hk.new (keep.getD j 0) (by show m'[_]? ≠ none; rw [getD_get h1.2]; simp) (fun q => by
        have : m0[keep.getD j 0]? = none := List.getElem?_eq_none (by rw [hl.len]; exact h1.1)
        exact q this)
      exact Nat.le_trans hi.size hge
    · rw [hold b hbm]; exact hi.new b hbm hD
  · intro i hi0 hD
    have hlt : i < w.heap.size := Nat.lt_of_lt_of_le hi0 hi.size
    rw [hk.old i hlt]
    · exact hi.old i hi0 hD
    · intro b hb e
      have hbl : b < θ.length := by
        rcases Nat.lt_or_ge b θ.length with h' | h'
        · exact h'
        · exact absurd (List.getElem?_eq_none (by rw [hl.len]; exact h')) hb
      by_cases hDb : D (θ.getD b 0)
      · exact hD _ hDb (by rw [← (hi.ent _ hDb).1, e])
      · have := hi.new _ (hmem b hbl) hDb
        omega
  · intro b hb
    exact ⟨hold b hb, by rw [hnot b hb]; exact (hdom b).2 hb⟩
theorem sum_mem {chk : Array Oper → Option DM → Bool} (hchk : DrawSound P chk) (hT : TOk P T) (hS : STok P S) {L : Nat → Option DM} {n : Nat} {f : FuncId} {fn : Func} {c : Code} (hf : P.funcs[f]? = some fn) (hb : fn.body = some c)
    (hn : (fn.name == "runtime.NumGoroutine") = false) (hd : drawsOk chk L c = true) {g : Sum}
    (hg : ∀ args env nxt, g args env nxt ≠ .fail → ∃ args0 θ m0, Laid env args args0 θ m0 ∧
      Good (exec T S L n c (initS args0 fn.ntmps m0)) (Ends T fn.results.toList (fun v m' => ∃ keep chg r', (r' = g args env nxt ∨ ∃ k i, g args env nxt = .any k ∧ r' = k i) ∧ Told θ m0 m' nxt keep chg v r') fun _ _ => False)) : SumOk P f g := by
  intro args D ρ0 w0 ρ mem env nxt w henv hnf hso hrf hfr hi
  obtain ⟨args0, θ, m0, hl, hgood⟩ := hg args _ nxt hnf
  refine .inr ⟨callFunc_enter hf hn (by rw [hb]; rfl) _, ?_⟩
  have hargs : (args.map (conc ρ)) = args0.map (conc fun i => ρ (θ.getD i 0)) := by
    rw [hl.args, ← concT_eq, concT_ren, concT_eq]
    rfl
  have hso0 : solidL args0 = true := by rw [hl.args, solidL_ren] at hso; exact hso
  rw [hargs]
  refine (calls_ok hchk hT hS hf hb hd (hl.start henv hi) hso0 (fun c hc => by
    show m0[c]? ≠ none
    rw [getD_get (l := m0) (by rw [hl.len]; exact hl.aref c hc)]; simp) hgood).mono fun e w' he => ?_
  obtain ⟨ρ', v, m', k1, k2, k3, ⟨rfl, keep, chg, r', hr, ht⟩ | ⟨-, -, hF⟩⟩ := he
  · rcases hr with hr | ⟨k, i, hk, hr⟩
    · rw [hr] at ht
      refine told_post hl henv hi ht (fun j hj => hfr j ?_) k3 k2 k1
      rw [ht.res]
      simpa [CR.news] using hj
    · rw [hr] at ht
      rw [hk]
      refine ⟨i, told_post hl henv hi ht (fun j hj => hfr j ?_) k3 k2 k1⟩
      rw [hk]
      refine ⟨i, ?_⟩
      rw [ht.res]
      simpa [CR.news] using hj
  · exact hF.elim
def stOf (l : List (FuncId × Sum)) : ST := fun f => (l.find? fun p => p.1 == f).map (·.2)
theorem stOf_ok {l : List (FuncId × Sum)} (h : ∀ p ∈ l, SumOk P p.1 p.2) : STok P (stOf l) := by
  intro f g hg
  unfold stOf at hg
  simp only [Option.map_eq_some_iff] at hg
  obtain ⟨p, hp, rfl⟩ := hg
  have h1 := List.find?_some hp
  simp only [beq_iff_eq] at h1
  subst h1
  exact h p (List.mem_of_find?_eq_some hp)
end
end Go.X
end

section
namespace Go.X
section
variable {P : Program} {D : Nat → Prop} {ρ0 ρ : Nat → Nat} {w0 w : World} {T : TT} {S : ST} {mem : Mem} {m : List Blk}
theorem upS {o : Oper} {a : Act} {cs : List Frame} {next : Act → List Frame → World → Prop} {Q : Exit → Act → List Frame → World → Prop} {N : Value → List Frame → World → Prop} {M : World → Prop}
    (h : o.wp P a w (fun a' w' => next a' cs w') (fun e a' w' => Q e a' cs w')) :
    (match (execOp a.eval o).run P w with
        | .ok .recover w' => match recoverD cs with
          | some (v, cs') => N v cs' w'
          | none => M w'
        | r => o.upon P a (fun a' w' => next a' cs w') (fun e a' w' => Q e a' cs w') r) := by
  unfold Oper.wp at h
  split
  · rename_i w' hr
    rw [hr] at h
    exact h.elim
  · exact h
theorem opsS_ok (hT : TOk P T) (hS : STok P S) {ops : Array Oper} {cs : List Frame} {Q : Ex → St → Prop} {K : Exit → Act → List Frame → World → Prop} (hK : ∀ e a w, Post D ρ0 w0 Q e a w → K e a cs w) : ∀ (l : List Oper) (k : Nat) {s : St} {ρ : Nat → Nat} {a : Act} {w : World}, (∀ j, l[j]? = ops[k + j]?) → RS D ρ0 w0 ρ s a w → Good (opsA T S ops l s) Q →
    wpOpsS P ops K (List.range' k l.length) a cs w
  | [], k, s, ρ, a, w, _, h, hg => hK _ _ _ ⟨.norm, s, ρ, h, hg, rfl⟩
  | o :: rest, k, s, ρ, a, w, hl, h, hg => by
    have h0 : ops[k]? = some o := by simpa using (hl 0).symm
    have hl' : ∀ j, rest[j]? = ops[k + 1 + j]? := fun j => by have := hl (j + 1); simpa [Nat.add_assoc, Nat.add_comm 1 j] using this
    have run : Good ((doOp T S o s).bind (opsA T S ops rest)) Q → o.wp P a w (fun a' w' => wpOpsS P ops K (List.range' (k + 1) rest.length) a' cs w') (fun e a w => K e a cs w) := by
      intro hg
      refine doOp_ok hT hS h hg.bind (fun s' ρ' a' w' h' hq _ _ => opsS_ok hT hS hK rest (k + 1) hl' h' hq) (fun e a' w' hp => ?_)
      obtain ⟨x, s', ρ', h1, h2, h3⟩ := hp
      cases x with
      | norm => exact h2.elim
      | exit id => exact hK _ _ _ ⟨_, s', ρ', h1, h2, h3⟩
      | ret => exact hK _ _ _ ⟨_, s', ρ', h1, h2, h3⟩
      | pan v => exact hK _ _ _ ⟨_, s', ρ', h1, h2, h3⟩
    unfold opsA at hg
    rw [List.length_cons, List.range'_succ]
    simp only [wpOpsS, h0]
    split at hg
    · rename_i hgd
      rw [if_pos (by simp [Region.wanted, hgd])]
      exact upS (next := fun a' cs w' => wpOpsS P ops K (List.range' (k + 1) rest.length) a' cs w') (Q := K) (run hg)
    · rename_i j want hgd
      split at hg
      · rename_i hd
        have : yielded ops a.tmps j = none := by unfold yielded; rw [hd]; rfl
        rw [if_neg (by simp [Region.wanted, hgd, this])]
        exact opsS_ok hT hS hK rest (k + 1) hl' (h.skip o.dst) hg
      · rename_i d hd
        obtain ⟨y1, y2⟩ := yielded_ok h hd
        split at hg
        · rename_i b hb
          have hy := y1 b hb
          split at hg
          · rename_i hbw
            rw [if_pos (by simp [Region.wanted, hgd, hy, hbw])]
            exact upS (next := fun a' cs w' => wpOpsS P ops K (List.range' (k + 1) rest.length) a' cs w') (Q := K) (run hg)
          · rename_i hbw
            rw [if_neg (by simp [Region.wanted, hgd, hy, hbw])]
            exact opsS_ok hT hS hK rest (k + 1) hl' (h.skip o.dst) hg
        · exact hg.elim
        · rename_i hnb hnu
          have hy := y2 hnu hnb
          rw [if_neg (by simp [Region.wanted, hgd, hy])]
          exact opsS_ok hT hS hK rest (k + 1) hl' (h.skip o.dst) hg
def clo (T : TT) (S : ST) (L : Nat → Option DM) (n : Nat) (ops : Array Oper) (tl : List Oper) (rest : Code) (d : Option Tmp) (nt : Nat) (cap : List AV) (m : List Blk) (v : AV) : Out :=
  (opsA T S ops tl ((initS cap nt m).put d v)).bind (exec T S L n rest)
theorem rec_ok {chk : Array Oper → Option DM → Bool} (hchk : DrawSound P chk) (hT : TOk P T) (hS : STok P S) {L : Nat → Option DM} {n : Nat} {f : FuncId} {fn : Func} {id : Nat} {ops : Array Oper} {rest : Code} {d : Option Tmp} {ts ty pos af} {tl : List Oper}
    (hf : P.funcs[f]? = some fn) (hb : fn.body = some (.seq (.region id ops false) rest)) (ho : ops.toList = ⟨d, .call ⟨.builtin .recover, #[], ts⟩, ty, pos, af, none⟩ :: tl) (hd : drawsOk chk L rest = true)
    (h : Inv D ρ0 w0 ρ (fun b => m[b]?) w) {cap : List AV} (hc : solidL cap = true) (hr : ∀ c ∈ refsL cap, (fun b => m[b]? : Mem) c ≠ none) {v : AV} {x : Value} (hv : SR ρ (fun b => m[b]?) v x) {u u' : FrameMode}
    (hrec : ∀ (c : Frame) (cs : List Frame), c.mode = u → (u' = u ∧ recoverD (c :: cs) = none ∧ x = .nilIface) ∨ recoverD (c :: cs) = some (x, { c with mode := u' } :: cs))
    {Q : List Blk → Prop} (hg : Good (clo T S L n ops tl rest d fn.ntmps cap m v) fun e s => (e = .norm ∨ e = .ret) ∧ s.df = [] ∧ (resA T s fn.results.toList).isSome = true ∧ Q s.m) :
    CallsD P f (cap.map (conc ρ)).toArray u w fun e u2 w' => u2 = u' ∧ ∃ y ρ' m', e = .returned y ∧ Inv D ρ0 w0 ρ' (fun b => m'[b]?) w' ∧ Q m' := by
  refine callsD_of_wpS hf hb fun c cs hm => wpS_seq (wpS_region ?_)
  have hsz : ops.size = tl.length + 1 := by rw [← Array.length_toList, ho]; rfl
  have h0 : ops[0]? = some ⟨d, .call ⟨.builtin .recover, #[], ts⟩, ty, pos, af, none⟩ := by rw [← Array.getElem?_toList, ho]; rfl
  have hl : ∀ j, tl[j]? = ops[0 + 1 + j]? := fun j => by
    rw [← Array.getElem?_toList, ho, show 0 + 1 + j = j + 1 from by omega]; rfl
  rw [hsz, List.range_eq_range', List.range'_succ]
  have hini := init_ok h hc hr fn.ntmps
  have main : ∀ a : Act, RS D ρ0 w0 ρ (initS cap fn.ntmps m) a w → wpOpsS P ops (Exit.thenS (rest.wpS P (bodyPostS P fn c cs fun e u2 w' => u2 = u' ∧ ∃ y ρ' m', e = .returned y ∧ Inv D ρ0 w0 ρ' (fun b => m'[b]?) w' ∧ Q m')) (bodyPostS P fn c cs fun e u2 w' => u2 = u' ∧ ∃ y ρ' m', e = .returned y ∧ Inv D ρ0 w0 ρ' (fun b => m'[b]?) w' ∧ Q m'))
      (List.range' (0 + 1) tl.length) (a.put d x) ({ c with mode := u' } :: cs) w := by
    intro a ha
    have hput := ha.put ha.inv (Later.refl _ _) hv d
    have fin : ∀ e a w, Post D ρ0 w0 (fun e s => (e = .norm ∨ e = .ret) ∧ s.df = [] ∧ (resA T s fn.results.toList).isSome = true ∧ Q s.m) e a w →
        bodyPostS P fn c cs (fun e u2 w' => u2 = u' ∧ ∃ y ρ' m', e = .returned y ∧ Inv D ρ0 w0 ρ' (fun b => m'[b]?) w' ∧ Q m') e a ({ c with mode := u' } :: cs) w := by
      rintro e a w ⟨z, s, ρ', h1, ⟨h2, h3, h4, h5⟩, h6⟩
      obtain ⟨r, hr⟩ := Option.isSome_iff_exists.1 h4
      obtain ⟨r1, -, -⟩ := resA_ok hT h1 hr
      have hdf : a.defers = [] := by rw [h1.defers, h3]; rfl
      rcases h2 with rfl | rfl
      · subst h6
        exact ⟨hdf, u', rfl, _, r1, rfl, _, ρ', s.m, rfl, h1.inv, h5⟩
      · subst h6
        exact ⟨hdf, u', rfl, _, r1, rfl, _, ρ', s.m, rfl, h1.inv, h5⟩
    refine opsS_ok (cs := { c with mode := u' } :: cs) hT hS (Q := Ex.seq (fun s => Good (exec T S L n rest s) fun e s => (e = .norm ∨ e = .ret) ∧ s.df = [] ∧ (resA T s fn.results.toList).isSome = true ∧ Q s.m) fun e s => (e = .norm ∨ e = .ret) ∧ s.df = [] ∧ (resA T s fn.results.toList).isSome = true ∧ Q s.m) ?_ tl (0 + 1) hl hput (Good.bind hg)
    rintro e a w ⟨z, s, ρ', h1, h2, h3⟩
    cases z with
    | norm =>
      subst h3
      exact wpS_of_wp (wp_mono (exec_ok hchk hT hS rest hd h1 h2) fun e a' w' hp => fin e a' w' hp)
    | exit i => exact (h2.1.elim (by simp) (by simp))
    | ret => subst h3; exact fin _ _ _ ⟨.ret, s, ρ', h1, h2, rfl⟩
    | pan v => exact (h2.1.elim (by simp) (by simp))
  have main := main _ hini
  simp only [wpOpsS, h0]
  rw [if_pos (by simp [Region.wanted])]
  have hx : ∀ a : Act, (execOp a.eval ⟨d, .call ⟨.builtin .recover, #[], ts⟩, ty, pos, af, none⟩).run P w = .ok .recover w := fun a => by simp [execOp, resolve, invoke, builtin]
  rw [hx]
  rcases hrec c cs hm with ⟨rfl, h1, rfl⟩ | h1
  · rw [h1]
    have : ({ c with mode := u' } : Frame) = c := by subst hm; rfl
    rw [this] at main
    exact main
  · rw [h1]
    exact main
def recOper (d : Option Tmp) (ts : Array TypeId) (ty : TypeId) (pos : String) (af : Array Edge) : Oper := ⟨d, .call ⟨.builtin .recover, #[], ts⟩, ty, pos, af, none⟩
def EndsD (T : TT) (rs rsD : List ResultVar) (fD : FuncId) (G : List AV → List Blk → AV → Out) (R : AV → Prop) (x : Ex) (s : St) : Prop :=
  match s.df with
  | [] => match x with
    | .exit _ => False
    | .pan _ => False
    | _ => ∃ r, resA T s rs = some r ∧ R r
  | [(f, cap)] => f = fD ∧ match x with
    | .exit _ => False
    | .pan v => Good (G cap s.m v) fun e s' => (e = .norm ∨ e = .ret) ∧ s'.df = [] ∧ (resA T s' rsD).isSome = true ∧ ∃ r, resA T ⟨s.ts, s'.m, []⟩ rs = some r ∧ R r
    | _ => Good (G cap s.m .nilif) fun e s' => (e = .norm ∨ e = .ret) ∧ s'.df = [] ∧ (resA T s' rsD).isSome = true ∧ ∃ r, resA T ⟨s.ts, s'.m, []⟩ rs = some r ∧ R r
  | _ => False
theorem sum_df {chk : Array Oper → Option DM → Bool} (hchk : DrawSound P chk) (hT : TOk P T) (hS : STok P S) {L : Nat → Option DM} {n : Nat} {f : FuncId} {fn : Func} {c : Code} (hf : P.funcs[f]? = some fn) (hb : fn.body = some c)
    (hn : (fn.name == "runtime.NumGoroutine") = false) (hd : drawsOk chk L c = true)
    {fD : FuncId} {fnD : Func} {id : Nat} {ops : Array Oper} {rest : Code} {d : Option Tmp} {ts ty pos af} {tl : List Oper}
    (hfD : P.funcs[fD]? = some fnD) (hnD : (fnD.name == "runtime.NumGoroutine") = false) (hbD : fnD.body = some (.seq (.region id ops false) rest)) (hoD : ops.toList = recOper d ts ty pos af :: tl) (hdD : drawsOk chk (fun _ => none) rest = true) {g : List AV → PR}
    (hv : ∀ args v, g args = .val v → refsL args = [] ∧ okv v = true ∧ refs v = [] ∧ Good (exec T S L n c (initS args fn.ntmps [])) (EndsD T fn.results.toList fnD.results.toList fD (fun cap m v => clo T (fun _ => none) (fun _ => none) 0 ops tl rest d fnD.ntmps cap m v) fun u => Eqv u v))
    (hp : ∀ args v, g args ≠ .pan v) : SumOk P f (pureS g) := by
  intro args D ρ0 w0 ρ mem env nxt w henv hnf hso hrf hfr hi
  refine .inr ⟨callFunc_enter hf hn (by rw [hb]; rfl) _, ?_⟩
  unfold pureS at hnf ⊢
  cases hg : g args with
  | fail => rw [hg] at hnf; exact absurd rfl hnf
  | pan v => exact absurd hg (hp args v)
  | val v =>
    obtain ⟨hra, g1, g2, g3⟩ := hv args v hg
    have start : Inv (fun b => (fun _ => none : Mem) b ≠ none) ρ w ρ (fun b => ([] : List Blk)[b]?) w := by
      have := Inv.start (w := w) (ρ := ρ) (mem := fun b => ([] : List Blk)[b]?) (by simp) (by simp) (by simp)
      simpa using this
    have hnone : STok P (fun _ => none) := fun _ _ h => by simp at h
    refine calls_of_wp_defers hf hb (wp_mono (exec_ok hchk hT hS c hd (init_ok start hso (by rw [hra]; simp) fn.ntmps) g3) fun e a w1 hq => ?_)
    obtain ⟨x, s, ρ1, h1, h2, h3⟩ := hq
    have last : ∀ (u u' : FrameMode) (rv : AV) (y : Value) (cap : List AV), s.df = [(fD, cap)] → u ≠ .run → settle u' = .returning → SR ρ1 s.mem rv y → (∀ (c : Frame) (cs : List Frame), c.mode = u → (u' = u ∧ recoverD (c :: cs) = none ∧ y = .nilIface) ∨ recoverD (c :: cs) = some (y, { c with mode := u' } :: cs)) →
        (Good (clo T (fun _ => none) (fun _ => none) 0 ops tl rest d fnD.ntmps cap s.m rv) fun e s' => (e = .norm ∨ e = .ret) ∧ s'.df = [] ∧ (resA T s' fnD.results.toList).isSome = true ∧ ∃ r, resA T ⟨s.ts, s'.m, []⟩ fn.results.toList = some r ∧ Eqv r v) →
        Leaves P fn a.tmps (CRpost D ρ0 w0 ρ mem nxt (.val v [] [])) a.defers u w1 := by
      intro u u' rv y cap hdf hu hset hsr hrec hgood
      have hdr := h1.dref (fD, cap) (by rw [hdf]; simp)
      rw [h1.defers, hdf]
      simp only [List.map_cons, List.map_nil]
      have hin := Inv.start (w := w1) (ρ := ρ1) (mem := s.mem) h1.inv.row h1.inv.inj h1.inv.ref
      have hcall := rec_ok (id := id) (m := s.m) hchk hT hnone hfD hbD hoD hdD hin hdr.1 hdr.2 hsr hrec (Q := fun m' => ∃ r, resA T ⟨s.ts, m', []⟩ fn.results.toList = some r ∧ Eqv r v) hgood
      refine leaves_cons hu (f := fD) (args := (cap.map (conc ρ1)).toArray) ?_ (hcall.mono fun e u2 w2 hq => ?_)
      · have := callFunc_enter (P := P) (w := w1) hfD hnD (by rw [hbD]; rfl) (cap.map (conc ρ1)).toArray
        simpa [invoke, concT_eq] using this
      · obtain ⟨rfl, z, ρ2, m', rfl, hi2, r, hr, hE⟩ := hq
        obtain ⟨hi3, hl⟩ := h1.inv.then hi2
        have hrs : RS (fun b => (fun _ => none : Mem) b ≠ none) ρ w ρ2 ⟨s.ts, m', []⟩ { a with defers := [] } w2 := ⟨hi3, fun t => (h1.tmps t).later hl, h1.size, rfl, by simp⟩
        obtain ⟨r1, r2, r3⟩ := resA_ok hT hrs hr
        show Leaves P fn a.tmps (CRpost D ρ0 w0 ρ mem nxt (.val v [] [])) [] (settle u2) w2
        rw [hset]
        refine ⟨_, r1, ρ, conc ρ v, ?_, .inr ⟨rfl, g1, by rw [g2]; simp⟩, ?_, ?_⟩
        · rw [hE ρ2, conc_noref g2 ρ2 ρ]
        · rintro rfl; simp [okv, solid] at g1
        · rw [memNew_nil, memUp_nil]; exact ⟨hi.from hi3, Later.refl _ _⟩
    have nil : SR ρ1 s.mem .nilif .nilIface := .inr ⟨rfl, rfl, by simp [refs]⟩
    unfold EndsD at h2
    split at h2
    · rename_i hdf
      have fin : (∃ r, resA T s fn.results.toList = some r ∧ Eqv r v) → Leaves P fn a.tmps (CRpost D ρ0 w0 ρ mem nxt (.val v [] [])) a.defers .returning w1 := by
        rintro ⟨r, hr, hE⟩
        obtain ⟨r1, r2, r3⟩ := resA_ok hT h1 hr
        rw [h1.defers, hdf]
        refine ⟨_, r1, ρ, conc ρ v, ?_, .inr ⟨rfl, g1, by rw [g2]; simp⟩, ?_, ?_⟩
        · rw [hE ρ1, conc_noref g2 ρ1 ρ]
        · rintro rfl; simp [okv, solid] at g1
        · rw [memNew_nil, memUp_nil]; exact ⟨hi.from h1.inv, Later.refl _ _⟩
      cases x with
      | norm => subst h3; exact fin h2
      | ret => subst h3; exact fin h2
      | pan pv => exact h2.elim
      | exit i => exact h2.elim
    · rename_i fD' cap e1
      obtain ⟨rfl, e2⟩ := h2
      cases x with
      | norm =>
        subst h3
        exact last .returning .returning .nilif .nilIface cap e1 (by simp) rfl nil (fun c cs hm => .inl ⟨rfl, by simp [recoverD, hm], rfl⟩) e2
      | ret =>
        subst h3
        exact last .returning .returning .nilif .nilIface cap e1 (by simp) rfl nil (fun c cs hm => .inl ⟨rfl, by simp [recoverD, hm], rfl⟩) e2
      | pan pv =>
        obtain ⟨rfl, h4, h5⟩ := h3
        exact last (.panicking [{ v := conc ρ1 pv, recovered := false }]) (.panicking [{ v := conc ρ1 pv, recovered := true }]) pv (conc ρ1 pv) cap e1 (by simp) rfl (.inr ⟨rfl, okv_of_solid h4, h5⟩) (fun c cs hm => .inr (by simp [recoverD, hm])) e2
      | exit i => exact e2.elim
    · exact h2.elim
end
end Go.X
end

section
namespace Go.X
def unQ (id : Nat) (Q : Ex → St → Prop) (x : Ex) (s : St) : Prop :=
  match x with
  | .exit i => if i = id then Q .norm s else Q (.exit i) s
  | x => Q x s
theorem good_unblock {Q : Ex → St → Prop} {id : Nat} : ∀ {o : Out}, Good (X.unblock id o) Q ↔ Good o (unQ id Q)
  | .fin x s => by
    cases x with
    | exit i =>
      simp only [X.unblock]
      show Good (if i = id then _ else _) Q ↔ (if i = id then Q .norm s else Q (.exit i) s)
      by_cases h : i = id
      · rw [if_pos h, if_pos h]; exact Iff.rfl
      · rw [if_neg h, if_neg h]; exact Iff.rfl
    | norm => exact Iff.rfl
    | ret => exact Iff.rfl
    | pan v => exact Iff.rfl
  | .any k => ⟨fun h n => good_unblock.1 (h n), fun h n => good_unblock.2 (h n)⟩
  | .fail => Iff.rfl
@[simp] theorem unQ_norm {id : Nat} {Q : Ex → St → Prop} {s : St} : unQ id Q .norm s ↔ Q .norm s := Iff.rfl
@[simp] theorem unQ_ret {id : Nat} {Q : Ex → St → Prop} {s : St} : unQ id Q .ret s ↔ Q .ret s := Iff.rfl
@[simp] theorem unQ_pan {id : Nat} {Q : Ex → St → Prop} {s : St} {v : AV} : unQ id Q (.pan v) s ↔ Q (.pan v) s := Iff.rfl
@[simp] theorem unQ_exit {id i : Nat} {Q : Ex → St → Prop} {s : St} : unQ id Q (.exit i) s ↔ if i = id then Q .norm s else Q (.exit i) s := Iff.rfl
theorem loop_rule {f : St → Out} {Q : Ex → St → Prop} (I : Nat → St → Prop) (h : ∀ k s, I k s → Good (f s) (Ex.seq (fun s' => ∃ k', k' < k ∧ I k' s') Q)) : ∀ (n k : Nat) (s : St), k < n → I k s → Good (loopA f n s) Q
  | 0, k, s, hk, _ => by omega
  | n + 1, k, s, hk, hi => by
    simp only [loopA]
    rw [good_bind]
    refine (h k s hi).mono fun x s' hx => ?_
    cases x with
    | norm => obtain ⟨k', h1, h2⟩ := hx; exact loop_rule I h n k' s' (by omega) h2
    | _ => exact hx
def fillP (l : Nat → AV) : Nat → List (Option AV) → List AV
  | _, [] => []
  | i, none :: p => l i :: fillP l (i + 1) p
  | i, some v :: p => v :: fillP l (i + 1) p
def Fits : List (Option AV) → List AV → Prop
  | [], ts => ts = []
  | none :: p, ts => match ts with | [] => False | _ :: ts => Fits p ts
  | some v :: p, ts => match ts with | [] => False | u :: ts => u = v ∧ Fits p ts
theorem fillP_congr {l l' : Nat → AV} : ∀ (p : List (Option AV)) (i : Nat), (∀ j, i ≤ j → l j = l' j) → fillP l i p = fillP l' i p
  | [], _, _ => rfl
  | none :: p, i, h => by simp only [fillP]; rw [h i (Nat.le_refl _), fillP_congr p (i + 1) fun j hj => h j (by omega)]
  | some v :: p, i, h => by simp only [fillP]; rw [fillP_congr p (i + 1) fun j hj => h j (by omega)]
theorem fits_of : ∀ {p : List (Option AV)} {ts : List AV}, Fits p ts → ∀ i, ∃ l, ts = fillP l i p
  | [], ts, h, i => ⟨fun _ => .undef, h⟩
  | none :: p, [], h, i => h.elim
  | some v :: p, [], h, i => h.elim
  | none :: p, u :: ts, h, i => by
    obtain ⟨l, hl⟩ := fits_of (p := p) (ts := ts) h (i + 1)
    refine ⟨fun j => if j = i then u else l j, ?_⟩
    simp only [fillP, if_true]
    rw [hl]
    congr 1
    exact fillP_congr p (i + 1) fun j hj => by rw [if_neg (by omega)]
  | some v :: p, u :: ts, h, i => by
    obtain ⟨rfl, h⟩ := h
    obtain ⟨l, hl⟩ := fits_of (p := p) (ts := ts) h (i + 1)
    exact ⟨l, by simp only [fillP]; rw [hl]⟩
@[simp] theorem fits_nil : Fits [] [] ↔ True := by simp [Fits]
@[simp] theorem fits_none {p : List (Option AV)} {u : AV} {ts : List AV} : Fits (none :: p) (u :: ts) ↔ Fits p ts := Iff.rfl
@[simp] theorem fits_some {p : List (Option AV)} {u v : AV} {ts : List AV} : Fits (some v :: p) (u :: ts) ↔ u = v ∧ Fits p ts := Iff.rfl
@[simp] theorem fillP_nil {l : Nat → AV} {i : Nat} : fillP l i [] = [] := rfl
@[simp] theorem fillP_none {l : Nat → AV} {i : Nat} {p : List (Option AV)} : fillP l i (none :: p) = l i :: fillP l (i + 1) p := rfl
@[simp] theorem fillP_some {l : Nat → AV} {i : Nat} {v : AV} {p : List (Option AV)} : fillP l i (some v :: p) = v :: fillP l (i + 1) p := rfl
end Go.X
end

section
namespace Go.X
def quietO : OR → Option (AV × List Blk)
  | .val v [] nw => some (v, nw)
  | _ => none
@[simp] theorem doOp_move {T : TT} {S : ST} {s : St} {d ty pos af gu x} : doOp T S ⟨d, .move x, ty, pos, af, gu⟩ s = ofOR d s (opA T s.mem s.m.length (evA s.ts) (.move x)) := rfl
@[simp] theorem doQ_move {T : TT} {S : ST} {s : St} {d ty pos af gu x} : doQ T S ⟨d, .move x, ty, pos, af, gu⟩ s = quietO (opA T s.mem s.m.length (evA s.ts) (.move x)) := rfl
@[simp] theorem doOp_assign {T : TT} {S : ST} {s : St} {d ty pos af gu x} : doOp T S ⟨d, .assign x, ty, pos, af, gu⟩ s = ofOR d s (opA T s.mem s.m.length (evA s.ts) (.assign x)) := rfl
@[simp] theorem doQ_assign {T : TT} {S : ST} {s : St} {d ty pos af gu x} : doQ T S ⟨d, .assign x, ty, pos, af, gu⟩ s = quietO (opA T s.mem s.m.length (evA s.ts) (.assign x)) := rfl
@[simp] theorem doOp_pick {T : TT} {S : ST} {s : St} {d ty pos af gu c a b} : doOp T S ⟨d, .pick c a b, ty, pos, af, gu⟩ s = ofOR d s (opA T s.mem s.m.length (evA s.ts) (.pick c a b)) := rfl
@[simp] theorem doQ_pick {T : TT} {S : ST} {s : St} {d ty pos af gu c a b} : doQ T S ⟨d, .pick c a b, ty, pos, af, gu⟩ s = quietO (opA T s.mem s.m.length (evA s.ts) (.pick c a b)) := rfl
@[simp] theorem doOp_alloc {T : TT} {S : ST} {s : St} {d ty pos af gu e} : doOp T S ⟨d, .alloc e, ty, pos, af, gu⟩ s = ofOR d s (opA T s.mem s.m.length (evA s.ts) (.alloc e)) := rfl
@[simp] theorem doQ_alloc {T : TT} {S : ST} {s : St} {d ty pos af gu e} : doQ T S ⟨d, .alloc e, ty, pos, af, gu⟩ s = quietO (opA T s.mem s.m.length (evA s.ts) (.alloc e)) := rfl
@[simp] theorem doOp_box {T : TT} {S : ST} {s : St} {d ty pos af gu e x} : doOp T S ⟨d, .box e x, ty, pos, af, gu⟩ s = ofOR d s (opA T s.mem s.m.length (evA s.ts) (.box e x)) := rfl
@[simp] theorem doQ_box {T : TT} {S : ST} {s : St} {d ty pos af gu e x} : doQ T S ⟨d, .box e x, ty, pos, af, gu⟩ s = quietO (opA T s.mem s.m.length (evA s.ts) (.box e x)) := rfl
@[simp] theorem doOp_build {T : TT} {S : ST} {s : St} {d ty pos af gu t ps} : doOp T S ⟨d, .build t ps, ty, pos, af, gu⟩ s = ofOR d s (opA T s.mem s.m.length (evA s.ts) (.build t ps)) := rfl
@[simp] theorem doQ_build {T : TT} {S : ST} {s : St} {d ty pos af gu t ps} : doQ T S ⟨d, .build t ps, ty, pos, af, gu⟩ s = quietO (opA T s.mem s.m.length (evA s.ts) (.build t ps)) := rfl
@[simp] theorem doOp_buildSlice {T : TT} {S : ST} {s : St} {d ty pos af gu t n ps} : doOp T S ⟨d, .buildSlice t n ps, ty, pos, af, gu⟩ s = ofOR d s (opA T s.mem s.m.length (evA s.ts) (.buildSlice t n ps)) := rfl
@[simp] theorem doQ_buildSlice {T : TT} {S : ST} {s : St} {d ty pos af gu t n ps} : doQ T S ⟨d, .buildSlice t n ps, ty, pos, af, gu⟩ s = quietO (opA T s.mem s.m.length (evA s.ts) (.buildSlice t n ps)) := rfl
@[simp] theorem doOp_load {T : TT} {S : ST} {s : St} {d ty pos af gu t a} : doOp T S ⟨d, .load t a, ty, pos, af, gu⟩ s = ofOR d s (opA T s.mem s.m.length (evA s.ts) (.load t a)) := rfl
@[simp] theorem doQ_load {T : TT} {S : ST} {s : St} {d ty pos af gu t a} : doQ T S ⟨d, .load t a, ty, pos, af, gu⟩ s = quietO (opA T s.mem s.m.length (evA s.ts) (.load t a)) := rfl
@[simp] theorem doOp_store {T : TT} {S : ST} {s : St} {d ty pos af gu t a x} : doOp T S ⟨d, .store t a x, ty, pos, af, gu⟩ s = ofOR d s (opA T s.mem s.m.length (evA s.ts) (.store t a x)) := rfl
@[simp] theorem doQ_store {T : TT} {S : ST} {s : St} {d ty pos af gu t a x} : doQ T S ⟨d, .store t a x, ty, pos, af, gu⟩ s = quietO (opA T s.mem s.m.length (evA s.ts) (.store t a x)) := rfl
@[simp] theorem doOp_nilCheck {T : TT} {S : ST} {s : St} {d ty pos af gu x} : doOp T S ⟨d, .nilCheck x, ty, pos, af, gu⟩ s = ofOR d s (opA T s.mem s.m.length (evA s.ts) (.nilCheck x)) := rfl
@[simp] theorem doQ_nilCheck {T : TT} {S : ST} {s : St} {d ty pos af gu x} : doQ T S ⟨d, .nilCheck x, ty, pos, af, gu⟩ s = quietO (opA T s.mem s.m.length (evA s.ts) (.nilCheck x)) := rfl
@[simp] theorem doOp_binOp {T : TT} {S : ST} {s : St} {d ty pos af gu op t x y u} : doOp T S ⟨d, .binOp op t x y u, ty, pos, af, gu⟩ s = ofOR d s (opA T s.mem s.m.length (evA s.ts) (.binOp op t x y u)) := rfl
@[simp] theorem doQ_binOp {T : TT} {S : ST} {s : St} {d ty pos af gu op t x y u} : doQ T S ⟨d, .binOp op t x y u, ty, pos, af, gu⟩ s = quietO (opA T s.mem s.m.length (evA s.ts) (.binOp op t x y u)) := rfl
@[simp] theorem doOp_unOp {T : TT} {S : ST} {s : St} {d ty pos af gu op t x} : doOp T S ⟨d, .unOp op t x, ty, pos, af, gu⟩ s = ofOR d s (opA T s.mem s.m.length (evA s.ts) (.unOp op t x)) := rfl
@[simp] theorem doQ_unOp {T : TT} {S : ST} {s : St} {d ty pos af gu op t x} : doQ T S ⟨d, .unOp op t x, ty, pos, af, gu⟩ s = quietO (opA T s.mem s.m.length (evA s.ts) (.unOp op t x)) := rfl
@[simp] theorem doOp_convert {T : TT} {S : ST} {s : St} {d ty pos af gu a b x} : doOp T S ⟨d, .convert a b x, ty, pos, af, gu⟩ s = ofOR d s (opA T s.mem s.m.length (evA s.ts) (.convert a b x)) := rfl
@[simp] theorem doQ_convert {T : TT} {S : ST} {s : St} {d ty pos af gu a b x} : doQ T S ⟨d, .convert a b x, ty, pos, af, gu⟩ s = quietO (opA T s.mem s.m.length (evA s.ts) (.convert a b x)) := rfl
@[simp] theorem doOp_makeInterface {T : TT} {S : ST} {s : St} {d ty pos af gu t x} : doOp T S ⟨d, .makeInterface t x, ty, pos, af, gu⟩ s = ofOR d s (opA T s.mem s.m.length (evA s.ts) (.makeInterface t x)) := rfl
@[simp] theorem doQ_makeInterface {T : TT} {S : ST} {s : St} {d ty pos af gu t x} : doQ T S ⟨d, .makeInterface t x, ty, pos, af, gu⟩ s = quietO (opA T s.mem s.m.length (evA s.ts) (.makeInterface t x)) := rfl
@[simp] theorem doOp_makeFunc {T : TT} {S : ST} {s : St} {d ty pos af gu f a b} : doOp T S ⟨d, .makeFunc f a b, ty, pos, af, gu⟩ s = ofOR d s (opA T s.mem s.m.length (evA s.ts) (.makeFunc f a b)) := rfl
@[simp] theorem doQ_makeFunc {T : TT} {S : ST} {s : St} {d ty pos af gu f a b} : doQ T S ⟨d, .makeFunc f a b, ty, pos, af, gu⟩ s = quietO (opA T s.mem s.m.length (evA s.ts) (.makeFunc f a b)) := rfl
@[simp] theorem doOp_makeSlice {T : TT} {S : ST} {s : St} {d ty pos af gu t l c} : doOp T S ⟨d, .makeSlice t l c, ty, pos, af, gu⟩ s = ofOR d s (opA T s.mem s.m.length (evA s.ts) (.makeSlice t l c)) := rfl
@[simp] theorem doQ_makeSlice {T : TT} {S : ST} {s : St} {d ty pos af gu t l c} : doQ T S ⟨d, .makeSlice t l c, ty, pos, af, gu⟩ s = quietO (opA T s.mem s.m.length (evA s.ts) (.makeSlice t l c)) := rfl
@[simp] theorem doOp_slice {T : TT} {S : ST} {s : St} {d ty pos af gu t x lo hi mx} : doOp T S ⟨d, .slice t x lo hi mx, ty, pos, af, gu⟩ s = ofOR d s (opA T s.mem s.m.length (evA s.ts) (.slice t x lo hi mx)) := rfl
@[simp] theorem doQ_slice {T : TT} {S : ST} {s : St} {d ty pos af gu t x lo hi mx} : doQ T S ⟨d, .slice t x lo hi mx, ty, pos, af, gu⟩ s = quietO (opA T s.mem s.m.length (evA s.ts) (.slice t x lo hi mx)) := rfl
@[simp] theorem doOp_fieldAddr {T : TT} {S : ST} {s : St} {d ty pos af gu a x f} : doOp T S ⟨d, .fieldAddr a x f, ty, pos, af, gu⟩ s = ofOR d s (opA T s.mem s.m.length (evA s.ts) (.fieldAddr a x f)) := rfl
@[simp] theorem doQ_fieldAddr {T : TT} {S : ST} {s : St} {d ty pos af gu a x f} : doQ T S ⟨d, .fieldAddr a x f, ty, pos, af, gu⟩ s = quietO (opA T s.mem s.m.length (evA s.ts) (.fieldAddr a x f)) := rfl
@[simp] theorem doOp_field {T : TT} {S : ST} {s : St} {d ty pos af gu a x f} : doOp T S ⟨d, .field a x f, ty, pos, af, gu⟩ s = ofOR d s (opA T s.mem s.m.length (evA s.ts) (.field a x f)) := rfl
@[simp] theorem doQ_field {T : TT} {S : ST} {s : St} {d ty pos af gu a x f} : doQ T S ⟨d, .field a x f, ty, pos, af, gu⟩ s = quietO (opA T s.mem s.m.length (evA s.ts) (.field a x f)) := rfl
@[simp] theorem doOp_indexAddr {T : TT} {S : ST} {s : St} {d ty pos af gu t x i} : doOp T S ⟨d, .indexAddr t x i, ty, pos, af, gu⟩ s = ofOR d s (opA T s.mem s.m.length (evA s.ts) (.indexAddr t x i)) := rfl
@[simp] theorem doQ_indexAddr {T : TT} {S : ST} {s : St} {d ty pos af gu t x i} : doQ T S ⟨d, .indexAddr t x i, ty, pos, af, gu⟩ s = quietO (opA T s.mem s.m.length (evA s.ts) (.indexAddr t x i)) := rfl
@[simp] theorem doOp_index {T : TT} {S : ST} {s : St} {d ty pos af gu t x i} : doOp T S ⟨d, .index t x i, ty, pos, af, gu⟩ s = ofOR d s (opA T s.mem s.m.length (evA s.ts) (.index t x i)) := rfl
@[simp] theorem doQ_index {T : TT} {S : ST} {s : St} {d ty pos af gu t x i} : doQ T S ⟨d, .index t x i, ty, pos, af, gu⟩ s = quietO (opA T s.mem s.m.length (evA s.ts) (.index t x i)) := rfl
@[simp] theorem doOp_extract {T : TT} {S : ST} {s : St} {d ty pos af gu x i} : doOp T S ⟨d, .extract x i, ty, pos, af, gu⟩ s = ofOR d s (opA T s.mem s.m.length (evA s.ts) (.extract x i)) := rfl
@[simp] theorem doQ_extract {T : TT} {S : ST} {s : St} {d ty pos af gu x i} : doQ T S ⟨d, .extract x i, ty, pos, af, gu⟩ s = quietO (opA T s.mem s.m.length (evA s.ts) (.extract x i)) := rfl
@[simp] theorem doOp_typeAssert {T : TT} {S : ST} {s : St} {d ty pos af gu x a t ok} : doOp T S ⟨d, .typeAssert x a t ok, ty, pos, af, gu⟩ s = ofOR d s (opA T s.mem s.m.length (evA s.ts) (.typeAssert x a t ok)) := rfl
@[simp] theorem doQ_typeAssert {T : TT} {S : ST} {s : St} {d ty pos af gu x a t ok} : doQ T S ⟨d, .typeAssert x a t ok, ty, pos, af, gu⟩ s = quietO (opA T s.mem s.m.length (evA s.ts) (.typeAssert x a t ok)) := rfl
@[simp] theorem doOp_panic {T : TT} {S : ST} {s : St} {d ty pos af gu x} : doOp T S ⟨d, .panic x, ty, pos, af, gu⟩ s = ofOR d s (opA T s.mem s.m.length (evA s.ts) (.panic x)) := rfl
@[simp] theorem doQ_panic {T : TT} {S : ST} {s : St} {d ty pos af gu x} : doQ T S ⟨d, .panic x, ty, pos, af, gu⟩ s = quietO (opA T s.mem s.m.length (evA s.ts) (.panic x)) := rfl
@[simp] theorem doOp_len {T : TT} {S : ST} {s : St} {d ty pos af gu as ts} : doOp T S ⟨d, .call ⟨.builtin .len, as, ts⟩, ty, pos, af, gu⟩ s = ofOR d s (opA T s.mem s.m.length (evA s.ts) (.call ⟨.builtin .len, as, ts⟩)) := rfl
@[simp] theorem doOp_min {T : TT} {S : ST} {s : St} {d ty pos af gu as ts} : doOp T S ⟨d, .call ⟨.builtin .min, as, ts⟩, ty, pos, af, gu⟩ s = ofOR d s (opA T s.mem s.m.length (evA s.ts) (.call ⟨.builtin .min, as, ts⟩)) := rfl
@[simp] theorem doOp_max {T : TT} {S : ST} {s : St} {d ty pos af gu as ts} : doOp T S ⟨d, .call ⟨.builtin .max, as, ts⟩, ty, pos, af, gu⟩ s = ofOR d s (opA T s.mem s.m.length (evA s.ts) (.call ⟨.builtin .max, as, ts⟩)) := rfl
@[simp] theorem doOp_append {T : TT} {S : ST} {s : St} {d ty pos af gu as ts} : doOp T S ⟨d, .call ⟨.builtin .append, as, ts⟩, ty, pos, af, gu⟩ s = .any fun c => ofOR d s (appA T s.mem s.m.length ts.toList (as.toList.map (evA s.ts)) c) := rfl
@[simp] theorem doQ_builtin {T : TT} {S : ST} {s : St} {d ty pos af gu b as ts} : doQ T S ⟨d, .call ⟨.builtin b, as, ts⟩, ty, pos, af, gu⟩ s = quietO (opA T s.mem s.m.length (evA s.ts) (.call ⟨.builtin b, as, ts⟩)) := rfl
def callA (S : ST) (args : List AV) (s : St) : AV → Option CR
  | .fn id cap => match S id with
    | some g => if solidL (args ++ cap) then some (g (args ++ cap) s.mem s.m.length) else none
    | none => none
  | .mv id first => match S id with
    | some g => if solidL (first ++ args) then some (g (first ++ args) s.mem s.m.length) else none
    | none => none
  | _ => none
def callE (S : ST) (args : List AV) (s : St) : AV → Option CR
  | .fn id cap => match S id with
    | some g => if solidL (args ++ cap) then some (g (args ++ cap) (envOf s.mem (refsL (args ++ cap))) s.m.length) else none
    | none => none
  | .mv id first => match S id with
    | some g => if solidL (first ++ args) then some (g (first ++ args) (envOf s.mem (refsL (first ++ args))) s.m.length) else none
    | none => none
  | _ => none
def callO (d : Option Tmp) (s : St) : Option CR → Out
  | some r => ofCR d s r
  | none => .fail
def callQ : Option CR → Option (AV × List Blk)
  | some r => quiet r
  | none => none
@[simp] theorem doOp_call {T : TT} {S : ST} {s : St} {d ty pos af gu f as ts} : doOp T S ⟨d, .call ⟨.value f, as, ts⟩, ty, pos, af, gu⟩ s = callO d s (callA S (as.toList.map (evA s.ts)) s (evA s.ts f)) := by
  simp only [doOp, callA, callee]
  cases evA s.ts f with
  | fn id cap =>
    dsimp only
    cases S id with
    | none => rfl
    | some g => dsimp only; split <;> rfl
  | mv id first =>
    dsimp only
    cases S id with
    | none => rfl
    | some g => dsimp only; split <;> rfl
  | _ => rfl
@[simp] theorem doQ_call {T : TT} {S : ST} {s : St} {d ty pos af gu f as ts} : doQ T S ⟨d, .call ⟨.value f, as, ts⟩, ty, pos, af, gu⟩ s = callQ (callE S (as.toList.map (evA s.ts)) s (evA s.ts f)) := by
  simp only [doQ, callE, callee]
  cases evA s.ts f with
  | fn id cap =>
    dsimp only
    cases S id with
    | none => rfl
    | some g => dsimp only; split <;> rfl
  | mv id first =>
    dsimp only
    cases S id with
    | none => rfl
    | some g => dsimp only; split <;> rfl
  | _ => rfl
@[simp] theorem callA_fn {S : ST} {args : List AV} {s : St} {id : FuncId} {cap : List AV} : callA S args s (.fn id cap) = match S id with
    | some g => if solidL (args ++ cap) then some (g (args ++ cap) s.mem s.m.length) else none
    | none => none := rfl
@[simp] theorem callA_mv {S : ST} {args : List AV} {s : St} {id : FuncId} {first : List AV} : callA S args s (.mv id first) = match S id with
    | some g => if solidL (first ++ args) then some (g (first ++ args) s.mem s.m.length) else none
    | none => none := rfl
@[simp] theorem callE_fn {S : ST} {args : List AV} {s : St} {id : FuncId} {cap : List AV} : callE S args s (.fn id cap) = match S id with
    | some g => if solidL (args ++ cap) then some (g (args ++ cap) (envOf s.mem (refsL (args ++ cap))) s.m.length) else none
    | none => none := rfl
@[simp] theorem callE_mv {S : ST} {args : List AV} {s : St} {id : FuncId} {first : List AV} : callE S args s (.mv id first) = match S id with
    | some g => if solidL (first ++ args) then some (g (first ++ args) (envOf s.mem (refsL (first ++ args))) s.m.length) else none
    | none => none := rfl
@[simp] theorem doOp_defer {T : TT} {S : ST} {s : St} {d ty pos af gu f as ts} : doOp T S ⟨d, .defer ⟨.value f, as, ts⟩, ty, pos, af, gu⟩ s = match evA s.ts f with
    | .fn id cap => if as.isEmpty then .fin .norm (St.put { s with df := (id, cap) :: s.df } d (.tup [])) else .fail
    | _ => .fail := rfl
@[simp] theorem opsA_nil {T : TT} {S : ST} {ops : Array Oper} {s : St} : opsA T S ops [] s = .fin .norm s := rfl
@[simp] theorem opsA_free {T : TT} {S : ST} {ops : Array Oper} {d op ty pos af rest} {s : St} : opsA T S ops (⟨d, op, ty, pos, af, none⟩ :: rest) s = (doOp T S ⟨d, op, ty, pos, af, none⟩ s).bind (opsA T S ops rest) := rfl
@[simp] theorem qStep_free {T : TT} {S : ST} {ops : Array Oper} {d op ty pos af} {s : St} : qStep T S ops ⟨d, op, ty, pos, af, none⟩ s = doQ T S ⟨d, op, ty, pos, af, none⟩ s := rfl
@[simp] theorem put_some {ts : List AV} {m : List Blk} {df : List (FuncId × List AV)} {t : Tmp} {v : AV} : St.put ⟨ts, m, df⟩ (some t) v = ⟨ts.set t v, m, df⟩ := rfl
@[simp] theorem put_none {s : St} {v : AV} : s.put none v = s := rfl
@[simp] theorem ofOR_pure {d : Option Tmp} {ts : List AV} {m : List Blk} {df : List (FuncId × List AV)} {v : AV} : ofOR d ⟨ts, m, df⟩ (.val v [] []) = .fin .norm (St.put ⟨ts, m, df⟩ d v) := by simp [ofOR, upM]
@[simp] theorem ofCR_pure {d : Option Tmp} {ts : List AV} {m : List Blk} {df : List (FuncId × List AV)} {v : AV} : ofCR d ⟨ts, m, df⟩ (.val v [] []) = .fin .norm (St.put ⟨ts, m, df⟩ d v) := by simp [ofCR, upM]
@[simp] theorem quietO_pure {v : AV} {nw : List Blk} : quietO (.val v [] nw) = some (v, nw) := rfl
@[simp] theorem quiet_pure {v : AV} {nw : List Blk} : quiet (.val v [] nw) = some (v, nw) := rfl
section
variable {T : TT} {S : ST} {L : Nat → Option DM} {n : Nat} {s : St}
@[simp] theorem exec_skip : exec T S L n .skip s = .fin .norm s := rfl
@[simp] theorem exec_label {i} : exec T S L n (.label i) s = .fin .norm s := rfl
@[simp] theorem exec_region {i ops} : exec T S L n (.region i ops false) s = opsA T S ops ops.toList s := rfl
@[simp] theorem exec_draw {i ops} : exec T S L n (.region i ops true) s = drawA T S (L i) ops s := rfl
@[simp] theorem exec_seq {a b} : exec T S L n (.seq a b) s = (exec T S L n a s).bind (exec T S L n b) := rfl
@[simp] theorem exec_cond {c x y} : exec T S L n (.cond c x y) s = match evA s.ts c with
    | .bool b => if b = true then exec T S L n x s else exec T S L n y s
    | _ => .fail := rfl
@[simp] theorem exec_block {i c} : exec T S L n (.block i c) s = unblock i (exec T S L n c s) := rfl
@[simp] theorem exec_loop {c} : exec T S L n (.loop c) s = loopA (exec T S L n c) n s := rfl
@[simp] theorem loopA_succ {f : St → Out} {k : Nat} : loopA f (k + 1) s = (f s).bind (loopA f k) := rfl
@[simp] theorem exec_scope {c} : exec T S L n (.scope c) s = exec T S L n c s := rfl
@[simp] theorem exec_exit {i} : exec T S L n (.exit i) s = .fin (.exit i) s := rfl
@[simp] theorem exec_ret : exec T S L n .ret s = .fin .ret s := rfl
@[simp] theorem opsA_guard {ops : Array Oper} {d op ty pos af j want rest} : opsA T S ops (⟨d, op, ty, pos, af, some (j, want)⟩ :: rest) s = match (ops[j]?).bind (·.dst) with
      | none => opsA T S ops rest (s.put d (.tup []))
      | some e => match s.ts.getD e .undef with
        | .bool b => if b = want then (doOp T S ⟨d, op, ty, pos, af, some (j, want)⟩ s).bind (opsA T S ops rest) else opsA T S ops rest (s.put d (.tup []))
        | .undef => .fail
        | _ => opsA T S ops rest (s.put d (.tup [])) := rfl
@[simp] theorem evA_tmp {ts : List AV} {t : Tmp} : evA ts (.tmp t) = ts.getD t .undef := rfl
@[simp] theorem evA_const {ts : List AV} {v : Value} : evA ts (.const v) = absV v := rfl
@[simp] theorem evA_func {ts : List AV} {f : FuncId} : evA ts (.func f) = .fn f [] := rfl
variable {rs : List ResultVar} {R R' : AV → List Blk → Prop}
@[simp] theorem Ends_norm : Ends T rs R R' .norm s ↔ s.df = [] ∧ ∃ v, resA T s rs = some v ∧ R v s.m := Iff.rfl
@[simp] theorem Ends_ret : Ends T rs R R' .ret s ↔ s.df = [] ∧ ∃ v, resA T s rs = some v ∧ R v s.m := Iff.rfl
@[simp] theorem Ends_pan {v} : Ends T rs R R' (.pan v) s ↔ s.df = [] ∧ R' v s.m := Iff.rfl
@[simp] theorem Ends_exit {i} : Ends T rs R R' (.exit i) s ↔ False := Iff.rfl
end
@[simp] theorem seq_norm {f : St → Prop} {Q : Ex → St → Prop} {s : St} : Ex.seq f Q .norm s ↔ f s := Iff.rfl
@[simp] theorem seq_ret {f : St → Prop} {Q : Ex → St → Prop} {s : St} : Ex.seq f Q .ret s ↔ Q .ret s := Iff.rfl
@[simp] theorem seq_exit {f : St → Prop} {Q : Ex → St → Prop} {s : St} {i} : Ex.seq f Q (.exit i) s ↔ Q (.exit i) s := Iff.rfl
@[simp] theorem seq_pan {f : St → Prop} {Q : Ex → St → Prop} {s : St} {v} : Ex.seq f Q (.pan v) s ↔ Q (.pan v) s := Iff.rfl
@[simp] theorem St.mem_mk {ts : List AV} {m : List Blk} {df : List (FuncId × List AV)} {b : Nat} : St.mem ⟨ts, m, df⟩ b = m[b]? := rfl
@[simp] theorem stOf_nil {f : FuncId} : stOf [] f = none := rfl
@[simp] theorem stOf_cons {f k : FuncId} {g : Sum} {l : List (FuncId × Sum)} : stOf ((k, g) :: l) f = if k = f then some g else stOf l f := by
  unfold stOf
  by_cases h : k = f
  · subst h; simp
  · have : (k == f) = false := by simpa using h
    simp [List.find?, this, h]
def prC : PR → CR
  | .val v => .val v [] []
  | .pan v => .pan v [] []
  | .fail => .fail
@[simp] theorem pureS_app {g : List AV → PR} {args : List AV} {env : Nat → Option Blk} {n : Nat} : pureS g args env n = prC (g args) := by
  unfold pureS prC
  cases g args <;> rfl
@[simp] theorem envOf_app {mem : Mem} {l : List Nat} {b : Nat} : envOf mem l b = if b ∈ l then mem b else none := rfl
def both (a b : Out) : Out := .any fun n => if n = 0 then a else b
@[simp] theorem allOf_one {a : Out} : allOf [a] = a := rfl
@[simp] theorem allOf_two {a b : Out} {l : List Out} : allOf (a :: b :: l) = both a (allOf (b :: l)) := rfl
@[simp] theorem both_bind {a b : Out} {f : St → Out} : (both a b).bind f = both (a.bind f) (b.bind f) := by
  show Out.any _ = Out.any _
  congr 1; funext n; by_cases h : n = 0 <;> simp [h]
@[simp] theorem both_unblock {a b : Out} {id : Nat} : unblock id (both a b) = both (unblock id a) (unblock id b) := by
  show Out.any _ = Out.any _
  congr 1; funext n; by_cases h : n = 0 <;> simp [h]
@[simp] theorem good_both {a b : Out} {Q : Ex → St → Prop} : Good (both a b) Q ↔ Good a Q ∧ Good b Q := by
  constructor
  · intro h; exact ⟨h 0, h 1⟩
  · rintro ⟨h, k⟩ n
    by_cases hn : n = 0
    · simp only [hn, if_true]; exact h
    · simp only [hn, if_false]; exact k
@[simp] theorem edges_nil {T : TT} {S : ST} {ops : Array Oper} {f : Nat → St → Out} {s : St} : edges T S ops f [] s = [] := rfl
@[simp] theorem edges_cons {T : TT} {S : ST} {ops : Array Oper} {f : Nat → St → Out} {i j : Nat} {l : List (Nat × Nat)} {s : St} : edges T S ops f ((i, j) :: l) s = (opsA T S ops (pickO ops [i]) s).bind (f j) :: edges T S ops f l s := rfl
@[simp] theorem dag0_some {m : Nat} {s : St} : dag0 (some (m, [])) s = .fin .norm s := rfl
@[simp] theorem dagS_nil {T : TT} {S : ST} {ops : Array Oper} {f : Nat → St → Out} {m : Nat} {s : St} : dagS T S ops f (some (m, [])) s = .fin .norm s := rfl
@[simp] theorem dagS_cons {T : TT} {S : ST} {ops : Array Oper} {f : Nat → St → Out} {m : Nat} {p : Nat × Nat} {l : List (Nat × Nat)} {s : St} : dagS T S ops f (some (m, p :: l)) s = allOf (edges T S ops f (p :: l) s) := rfl
@[simp] theorem dagA_zero {T : TT} {S : ST} {ops : Array Oper} {g : Array (Nat × List (Nat × Nat))} {node : Nat} {s : St} : dagA T S ops g 0 node s = dag0 g[node]? s := rfl
@[simp] theorem dagA_succ {T : TT} {S : ST} {ops : Array Oper} {g : Array (Nat × List (Nat × Nat))} {n node : Nat} {s : St} : dagA T S ops g (n + 1) node s = dagS T S ops (dagA T S ops g n) g[node]? s := rfl
@[simp] theorem pickO_nil {ops : Array Oper} : pickO ops [] = [] := rfl
@[simp] theorem pickO_cons {ops : Array Oper} {i : Nat} {p : List Nat} : pickO ops (i :: p) = match ops[i]? with | some o => o :: pickO ops p | none => pickO ops p := by
  unfold pickO
  cases h : ops[i]? <;> simp [h]
@[simp] theorem isWin_nil : isWin [] = false := id rfl
@[simp] theorem isWin_two {u v : AV} {l : List AV} : isWin (u :: v :: l) = false := by unfold isWin; split <;> simp_all
@[simp] theorem isWin_bool {b : Bool} : isWin [.bool b] = false := id rfl
@[simp] theorem isWin_int {k : IntKind} {n : Int} : isWin [.int k n] = false := id rfl
@[simp] theorem isWin_arr {k : IntKind} {n : Nat} {f : Nat → Int} : isWin [.arr k n f] = false := id rfl
@[simp] theorem isWin_agg {l : List AV} : isWin [.agg l] = false := id rfl
@[simp] theorem isWin_ptr {b o : Nat} : isWin [.ptr b o] = false := id rfl
@[simp] theorem isWin_nilptr  : isWin [.nilptr] = false := id rfl
@[simp] theorem isWin_slice {b o n c : Nat} : isWin [.slice b o n c] = false := id rfl
@[simp] theorem isWin_nilslice  : isWin [.nilslice] = false := id rfl
@[simp] theorem isWin_fn {f : FuncId} {l : List AV} : isWin [.fn f l] = false := id rfl
@[simp] theorem isWin_mv {f : FuncId} {l : List AV} : isWin [.mv f l] = false := id rfl
@[simp] theorem isWin_nilfn  : isWin [.nilfn] = false := id rfl
@[simp] theorem isWin_iface {t : TypeId} {v : AV} : isWin [.iface t v] = false := id rfl
@[simp] theorem isWin_nilif  : isWin [.nilif] = false := id rfl
@[simp] theorem loadB_not {i : TI} {blk : Blk} {o : Nat} (h : isWin blk.items = false) : loadB i blk o = if i.kind.agg then (readRow blk.items o i.size).map asAgg else readCell blk.items o := by
  unfold loadB
  split
  · rename_i e; rw [e] at h; simp [isWin] at h
  · rfl
@[simp] theorem rowB_arr {es o n N : Nat} {k k1 : IntKind} {f : Nat → Int} {t : TypeId} : rowB es k (some ⟨[.arr k1 N f], t⟩) o n = if k1 = k ∧ o + n * es ≤ N then some (n, o, f) else none := id rfl
@[simp] theorem rowB_nil {es o n : Nat} {k : IntKind} {t : TypeId} : rowB es k (some ⟨[], t⟩) o n = if n = 0 then some (0, 0, fun _ => 0) else none := id rfl
attribute [simp] opA ofOR ofCR Out.bind Good upM callO callQ items solid solidL refs refsL absV loadA nilBin rowK roomK isSl zeroK zerosK roomA TK.agg readRow readCell cut width widthL isC binA intBin intA boolBin ifBin aggBin unA pickA
  resA resL res1 okv initS writeRow asAgg fillA intsOf prC unblock drawA qopsA qStep floA without normOnly qopsH opsK keepO tameO eqA eqItems flatI explode copies packI sliceA evF
@[simp] theorem wrap_i64_in {n : Int} (h1 : -9223372036854775808 ≤ n) (h2 : n < 9223372036854775808) : IntKind.i64.wrap n = n := by
  rw [IntKind.wrap_i64]; omega
@[simp] theorem wrap_u64_in {n : Int} (h1 : 0 ≤ n) (h2 : n < 18446744073709551616) : IntKind.u64.wrap n = n := by
  simp only [IntKind.wrap, IntKind.signed, IntKind.bits]
  simp
  omega
theorem wrap_u64_mod (n : Int) : IntKind.u64.wrap n = n % 18446744073709551616 := by
  simp [IntKind.wrap, IntKind.signed, IntKind.bits]
def add64S : List AV → PR
  | [.int .u64 x, .int .u64 y, .int .u64 c] => if 0 ≤ x ∧ 0 ≤ y ∧ 0 ≤ c ∧ c ≤ 1 then .val (.tup [.int .u64 ((x + y + c) % 18446744073709551616), .int .u64 ((x + y + c) / 18446744073709551616)]) else .fail
  | _ => .fail
@[simp] theorem add64S_val {x : Int} {y : Int} {c : Int} (h : 0 ≤ x ∧ 0 ≤ y ∧ 0 ≤ c ∧ c ≤ 1) : add64S [.int .u64 x, .int .u64 y, .int .u64 c] = .val (.tup [.int .u64 ((x + y + c) % 18446744073709551616), .int .u64 ((x + y + c) / 18446744073709551616)]) := if_pos h
theorem add64_ok {P : Program} {f : FuncId} {fn : Func} (hf : P.funcs[f]? = some fn) (hn : (fn.name == "runtime.NumGoroutine") = false) (hb : fn.body.isNone = true) (h1 : (Extern.findNext fn).isNone = true) (h2 : Extern.find fn = some add64Entry) : SumOk P f (pureS add64S) := by
  intro args D ρ0 w0 ρ mem env nxt w henv hnf hso hrf hfr hi
  have hx : ∃ x y c, args = [.int .u64 x, .int .u64 y, .int .u64 c] ∧ (0 ≤ x ∧ 0 ≤ y ∧ 0 ≤ c ∧ c ≤ 1) := by
    simp only [pureS] at hnf
    unfold add64S at hnf
    split at hnf
    · rename_i v hv
      split at hv
      · split at hv
        · exact ⟨_, _, _, rfl, by assumption⟩
        · simp at hv
      · simp at hv
    · rename_i v hv
      split at hv
      · split at hv <;> simp at hv
      · simp at hv
    · simp at hnf
  obtain ⟨x, y, c, rfl, hx, hy, hc0, hc⟩ := hx
  have h1' : Extern.findNext fn = none := by simpa using h1
  refine .inl ⟨.tuple #[.int .u64 ((x + y + c) % 18446744073709551616), .int .u64 ((x + y + c) / 18446744073709551616)], w, ?_, ?_⟩
  · simp only [callFunc, Sem.run_bind, run_program, Result.andThen_ok, hf, hn, hb, Bool.false_eq_true, if_false, if_true, run_mark, h1', h2]
    have := run_add64 (P := P) x y c hx hy hc0 hc w
    simp only [List.map_cons, List.map_nil, conc, this, Result.andThen_ok, Sem.run_pure]
  · simp only [pureS, add64S, hx, hy, hc0, hc, and_self, if_true]
    refine ⟨ρ, _, rfl, .inr ⟨rfl, by simp, by simp⟩, by simp, ?_, ?_⟩
    · rw [memNew_nil, memUp_nil]; exact hi
    · rw [memNew_nil, memUp_nil]; exact Later.refl _ _
end Go.X
end

section
namespace Go.X
section
variable {P : Program} {T : TT} {S : ST}
theorem sum_read {chk : Array Oper → Option DM → Bool} (hchk : DrawSound P chk) (hT : TOk P T) (hS : STok P S) {L : Nat → Option DM} {n : Nat} {f : FuncId} {fn : Func} {c : Code} (hf : P.funcs[f]? = some fn) (hb : fn.body = some c)
    (hn : (fn.name == "runtime.NumGoroutine") = false) (hd : drawsOk chk L c = true) {g : Sum}
    (hg : ∀ args env nxt, g args env nxt ≠ .fail → ∃ args0 θ m0 u, Laid env args args0 θ m0 ∧ g args env nxt = .val u [] [] ∧ okv u = true ∧ refs u = [] ∧
      Good (exec T S L n c (initS args0 fn.ntmps m0)) (Ends T fn.results.toList (fun v m' => Eqv v u ∧ refs v = [] ∧ v ≠ .undef ∧ θ.length ≤ m'.length ∧ ∀ i, i < θ.length → m'[i]? = m0[i]?) fun _ _ => False)) : SumOk P f g := by
  intro args D ρ0 w0 ρ mem env nxt w henv hnf hso hrf hfr hi
  obtain ⟨args0, θ, m0, u, hl, hgu, ho, hru, hgood⟩ := hg args _ nxt hnf
  refine .inr ⟨callFunc_enter hf hn (by rw [hb]; rfl) _, ?_⟩
  have hargs : (args.map (conc ρ)) = args0.map (conc fun i => ρ (θ.getD i 0)) := by
    rw [hl.args, ← concT_eq, concT_ren, concT_eq]
    rfl
  have hso0 : solidL args0 = true := by rw [hl.args, solidL_ren] at hso; exact hso
  rw [hargs]
  refine (calls_ok hchk hT hS hf hb hd (hl.start henv hi) hso0 (fun c hc => by
    show m0[c]? ≠ none
    rw [getD_get (l := m0) (by rw [hl.len]; exact hl.aref c hc)]; simp) hgood).mono fun e w' he => ?_
  obtain ⟨ρ', v, m', k1, k2, k3, ⟨rfl, hE, hrv, hvu, hlen, hsame⟩ | ⟨-, -, hF⟩⟩ := he
  · have ht : Told θ m0 m' nxt [] none v (.val (v.ren (glob θ nxt [])) [] []) := by
      refine ⟨rfl, by simp, by simp, hlen, fun i h _ => hsame i h, by simp, by simp [hrv], ?_, hvu⟩
      intro q hq b hb
      rcases hq with hq | hq
      · have e : m'.getD q default = m0.getD q default := by rw [List.getD_eq_getElem?_getD, hsame q hq, ← List.getD_eq_getElem?_getD]
        rw [e] at hb
        exact .inl (hl.bref q hq b hb)
      · simp at hq
    obtain ⟨ρ2, x, hx, h3, h4, h5, h6⟩ := told_post hl henv hi ht (fun j hj => by simp at hj) k3 k2 k1
    rw [hgu]
    refine ⟨ρ2, x, hx, ?_, by rintro rfl; simp [okv, solid] at ho, h5, h6⟩
    obtain ⟨h7, -, -⟩ := h3.get h4
    refine .inr ⟨?_, ho, by rw [hru]; simp⟩
    rw [h7, conc_ren, hE, conc_noref hru _ ρ2]
  · exact hF.elim
end
end Go.X
end
