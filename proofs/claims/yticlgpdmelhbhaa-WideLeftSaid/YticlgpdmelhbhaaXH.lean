/- The operations without calls, all in one statement. Plain: no program in sight. -/
import Derived.Test.YticlgpdmelhbhaaXG
namespace Go.X

section
variable {P : Program} {D : Nat → Prop} {ρ0 ρ : Nat → Nat} {w0 w : World} {mem : Mem} {T : TT} {ev : Operand → AV} {aev : Operand → Value} {nxt : Nat}

theorem asBool_run (b : Bool) : (asBool (.bool b)).run P w = .ok b w := rfl

theorem ok_readAgg (h : Inv D ρ0 w0 ρ mem w) {l a : List AV} {o n : Nat} (hr : readRow l o n = some a) (hs : solidL l = true) (hrf : ∀ c ∈ refsL l, mem c ≠ none) {s : Sem Value}
    (hrun : s.run P w = .ok (.agg ((concC ρ l).toArray.extract o (o + n))) w) : Came P D ρ0 w0 ρ mem mem (asAgg a) (do pure (.value (← s))) w := by
  obtain ⟨r1, r2, r3, r4⟩ := readRow_spec hr
  obtain ⟨x, y, hxy, hx⟩ := r1 ρ
  refine came_pure h ?_ (okv_of_solid (by rw [solid_asAgg]; exact r4 hs)) (by rw [refs_asAgg]; exact fun c hc => hrf c (r3 c hc))
  rw [conc_asAgg]
  simp only [Sem.run_bind, hrun, Result.andThen_ok, Sem.run_pure]
  congr 3
  apply Array.toList_inj.1
  have hl : (concC ρ a).length = n := by rw [length_concC, r2]
  simp only [Array.toList_extract, List.toList_toArray]
  rw [hxy, List.append_assoc, List.extract_eq_take_drop, List.drop_append_of_le_length (by omega), List.drop_of_length_le (by omega), List.nil_append,
    List.take_append_of_le_length (by omega), List.take_of_length_le (by omega)]

theorem ok_readCell (h : Inv D ρ0 w0 ρ mem w) {l : List AV} {v : AV} {o : Nat} (hr : readCell l o = some v) (hs : solidL l = true) (hrf : ∀ c ∈ refsL l, mem c ≠ none) {s : Sem Value}
    (hrun : ∀ x, (concC ρ l)[o]? = some x → s.run P w = .ok x w) : Came P D ρ0 w0 ρ mem mem v (do pure (.value (← s))) w := by
  obtain ⟨r1, r2, r3⟩ := readCell_spec hr
  refine came_pure h ?_ (okv_of_solid (r3 hs)) (fun c hc => hrf c (r2 c hc))
  simp only [Sem.run_bind, hrun _ (r1 ρ), Result.andThen_ok, Sem.run_pure]

theorem part_agg {t : TypeId} {d : TypeDesc} {j : TypeInfo} (hd : P.underlying t = some d) (hj : P.info? t = some j) (ha : isAggT P t = true) (cs : Array Value) (o : Nat) : (part t cs o).run P w = .ok (.agg (cs.extract o (o + j.size))) w := by
  simp only [part, Sem.run_bind, run_isAgg hd, Result.andThen_ok, ha, if_true, run_sizeOf hj, Sem.run_pure]
theorem part_cell {t : TypeId} {d : TypeDesc} (hd : P.underlying t = some d) (ha : isAggT P t = false) {cs : Array Value} {o : Nat} {x : Value} (hx : cs[o]? = some x) : (part t cs o).run P w = .ok x w := by
  simp only [part, Sem.run_bind, run_isAgg hd, Result.andThen_ok, ha, Bool.false_eq_true, if_false, hx, Sem.run_pure]

theorem run_min2 (k k' : IntKind) (a b : Int) : (Builtin.min2 (.int k a) (.int k' b)).run P w = .ok (.int k (if b < a then b else a)) w := rfl
theorem run_max2 (k k' : IntKind) (a b : Int) : (Builtin.max2 (.int k a) (.int k' b)).run P w = .ok (.int k (if b > a then b else a)) w := rfl

theorem map_ev {l : List Operand} {vs : List AV} (hev : ∀ x, SR ρ mem (ev x) (aev x)) (h : l.map ev = vs) (hs : ∀ v ∈ vs, solid v = true) : l.map aev = vs.map (conc ρ) := by
  subst h
  rw [List.map_map]
  apply List.map_congr_left
  intro x hx
  exact (hev x).solid (hs _ (List.mem_map.2 ⟨x, hx, rfl⟩))

set_option maxHeartbeats 1000000 in
/-- an operation that calls nothing of Go's -/
theorem opA_ok (hT : TOk P T) (h : Inv D ρ0 w0 ρ mem w) {o : Oper} {v : AV} {up : List (Nat × List AV)} {nw : List Blk} (hn : nw ≠ [] → mem nxt = none) (hev : ∀ x, SR ρ mem (ev x) (aev x)) (hop : opA T mem nxt ev o.op = .val v up nw) :
    Came P D ρ0 w0 ρ mem (memNew (memUp mem up) nxt nw) v (execOp aev o) w := by
  obtain ⟨dst, op, type, pos, after, guard⟩ := o
  simp only at hop
  unfold opA at hop
  split at hop
  · -- move
    obtain ⟨rfl, rfl, rfl⟩ := val_inj hop
    rw [memNew_nil, memUp_nil]
    exact ok_move h hev
  · -- assign
    obtain ⟨rfl, rfl, rfl⟩ := val_inj hop
    rw [memNew_nil, memUp_nil]
    exact ok_move h hev
  · -- pick
    rename_i c a b
    split at hop
    · rename_i q hq
      obtain ⟨rfl, rfl, rfl⟩ := val_inj hop
      rw [memNew_nil, memUp_nil]
      obtain ⟨hc, -, -⟩ := (hev c).get (by rw [hq]; simp)
      rw [hq, conc] at hc
      refine ⟨_, w, ρ, _, ?_, .inl rfl, pick_ok (c := q) (hev a) (hev b), h, Later.refl _ _⟩
      simp only [execOp, hc, Sem.run_bind, asBool_run, Result.andThen_ok, Sem.run_pure]
    · simp at hop
  · -- alloc
    rename_i e
    split at hop
    · rename_i i hi
      obtain ⟨rfl, rfl, rfl⟩ := val_inj hop
      rw [memUp_nil]
      have ti := hT e i hi
      obtain ⟨z1, z2, z3⟩ := ti.zero
      refine came_fresh h (hn (by simp)) e (by rw [solidL_items]; exact z2) (by rw [refsL_items, z1]; simp) (cells := (conc ρ i.zero).cells) (by rw [concC_items]) (f := fun a => .pointer (some a)) ?_ rfl rfl (fun ρ' => rfl)
      intro a w' hr
      simp only [execOp, Instr.alloc, Sem.run_bind, run_zero ti ρ, Result.andThen_ok, newVar, hr, Sem.run_pure]
    · simp at hop
  · -- box
    rename_i e x
    split at hop
    · rename_i hs
      obtain ⟨rfl, rfl, rfl⟩ := val_inj hop
      rw [memUp_nil]
      refine came_fresh h (hn (by simp)) e (by rw [solidL_items]; exact hs) (by rw [refsL_items]; exact (hev x).refs_mem) (cells := (aev x).cells) (by rw [concC_items, (hev x).solid hs]) (f := fun a => .pointer (some a)) ?_ rfl rfl (fun ρ' => rfl)
      intro a w' hr
      simp only [execOp, Instr.box, Sem.run_bind, newVar, hr, Result.andThen_ok, Sem.run_pure]
    · simp at hop
  · -- build
    rename_i t parts
    split at hop
    · rename_i fs sz z q hi
      split at hop
      · rename_i l hl
        obtain ⟨rfl, rfl, rfl⟩ := val_inj hop
        rw [memNew_nil, memUp_nil]
        exact ok_build hT h hev hi hl (fun cells hc => run_build_struct (hT t _ hi) rfl (by rw [Array.toList_map]; exact hc))
      · simp at hop
    · rename_i n es ea sz z q hi
      split at hop
      · rename_i l hl
        obtain ⟨rfl, rfl, rfl⟩ := val_inj hop
        rw [memNew_nil, memUp_nil]
        exact ok_build hT h hev hi hl (fun cells hc => run_build_array (hT t _ hi) rfl (by rw [Array.toList_map]; exact hc))
      · simp at hop
    · simp at hop
  · -- buildSlice
    rename_i t n parts
    split at hop
    · rename_i e es eb ez sz z q hi
      split at hop
      · rename_i hb
        split at hop
        · rename_i l hl
          obtain ⟨rfl, rfl, rfl⟩ := val_inj hop
          rw [memUp_nil]
          exact ok_buildSlice hT h (hn (by simp)) hev hi hb hl
        · simp at hop
      · simp at hop
    · simp at hop
  · -- load
    rename_i t a
    split at hop
    · rename_i u hu
      obtain ⟨rfl, rfl, rfl⟩ := val_inj hop
      rw [memNew_nil, memUp_nil]
      obtain ⟨l1, l2, l3⟩ := load_ok hT h hu (hev a)
      exact came_pure h (by simp only [execOp, Sem.run_bind, l1, Result.andThen_ok, Sem.run_pure]) l2 l3
    · simp at hop
  · -- store
    rename_i t a x
    split at hop
    · rename_i b o i ha hi
      split at hop
      · rename_i blk hm
        split at hop
        · rename_i hs
          simp only [Bool.and_eq_true, beq_iff_eq] at hs
          split at hop
          · rename_i l hl
            obtain ⟨rfl, rfl, rfl⟩ := val_inj hop
            rw [memNew_nil]
            obtain ⟨s1, s2, s3⟩ := store_ok hT h hi hm hs.1 hs.2 hl (hev x).refs_mem
            obtain ⟨ea, -, -⟩ := (hev a).get (by rw [ha]; simp)
            refine ⟨.skip, _, ρ, _, ?_, .inr ⟨rfl, rfl⟩, .inr ⟨rfl, rfl, by simp [refs, refsL]⟩, s2, s3⟩
            rw [ha, conc] at ea
            simp only [execOp, ea, (hev x).solid hs.1, Sem.run_bind, s1, Result.andThen_ok, Sem.run_pure]
          · simp at hop
        · simp at hop
      · simp at hop
    · simp at hop
  · -- nilCheck
    rename_i x
    split at hop <;> first
      | (rename_i hx
         obtain ⟨rfl, rfl, rfl⟩ := val_inj hop
         rw [memNew_nil, memUp_nil]
         obtain ⟨e1, e2, e3⟩ := (hev x).get (by rw [hx]; simp)
         rw [hx] at e1 e2 e3
         exact came_pure h (by simp only [execOp, e1, conc]; rfl) e2 e3)
      | (simp at hop; done)
  · -- binOp
    rename_i op t x y t'
    split at hop
    · rename_i u hu
      obtain ⟨rfl, rfl, rfl⟩ := val_inj hop
      rw [memNew_nil, memUp_nil]
      have hx : ev x ≠ .undef := by intro e; rw [e] at hu; simp [binA] at hu
      have hy : ev y ≠ .undef := by intro e; rw [e] at hu; unfold binA at hu; split at hu <;> simp_all
      obtain ⟨r1, r2, r3⟩ := run_binA (P := P) (w := w) (ρ := ρ) hT x y hu
      refine came_pure h ?_ r2 (by rw [r3]; simp)
      simp only [execOp, ((hev x).get hx).1, ((hev y).get hy).1]
      rw [Sem.run_bind, r1]
      rfl
    · simp at hop
  · -- unOp
    rename_i op t x
    split at hop
    · rename_i u hu
      obtain ⟨rfl, rfl, rfl⟩ := val_inj hop
      rw [memNew_nil, memUp_nil]
      have hx : ev x ≠ .undef := by intro e; rw [e] at hu; cases op <;> simp [unA] at hu
      obtain ⟨r1, r2, r3⟩ := run_unA (P := P) (w := w) (ρ := ρ) hu
      exact came_pure h (by simp only [execOp, ((hev x).get hx).1, Sem.run_bind, r1, Result.andThen_ok, Sem.run_pure]) r2 (by rw [r3]; simp)
    · simp at hop
  · -- convert
    rename_i s d x
    split at hop
    · rename_i i k sz z q k' n hi hd hx
      obtain ⟨rfl, rfl, rfl⟩ := val_inj hop
      rw [memNew_nil, memUp_nil]
      obtain ⟨ex, -, -⟩ := (hev x).get (by rw [hx]; simp)
      obtain ⟨ds, hus⟩ := (hT s i hi).und
      have hud := (hT d _ hd).kind
      simp only at hud
      refine came_pure h ?_ rfl (by simp [refs])
      rw [hx, conc] at ex
      simp only [execOp, ex, convert, Sem.run_bind, run_underlying hus, run_underlying hud, Result.andThen_ok, conc]
      rfl
    · simp at hop
  · -- makeInterface
    rename_i t x
    split at hop
    · simp at hop
    · simp at hop
    · simp at hop
    · rename_i i hni hno hi
      split at hop
      · rename_i hs
        obtain ⟨rfl, rfl, rfl⟩ := val_inj hop
        rw [memNew_nil, memUp_nil]
        obtain ⟨d, hd⟩ := (hT t _ hi).und
        refine came_pure h ?_ (by simpa [okv, solid] using hs) (by simpa [refs] using (hev x).refs_mem)
        have hk := (hT t _ hi).kind
        have hnd : ∀ ms, d ≠ .interface ms := by
          rintro ms rfl
          obtain ⟨kd, sz, z, q⟩ := i
          cases kd <;> simp only [] at hk <;> first
            | (exact (hni _ _ _ rfl).elim)
            | (exact (hno _ _ _ rfl).elim)
            | (rw [hd] at hk; simp at hk)
        have : (Instr.makeInterface t (aev x)).run P w = .ok (.iface t (aev x)) w := by
          simp only [Instr.makeInterface, Sem.run_bind, run_underlying hd, Result.andThen_ok]
          cases d <;> first | rfl | exact (hnd _ rfl).elim
        rw [(hev x).solid hs] at this
        simp only [execOp, Sem.run_bind, (hev x).solid hs, this, Result.andThen_ok, Sem.run_pure, conc]
      · simp at hop
  · -- makeFunc
    rename_i f first cap
    split at hop
    · rename_i hs
      simp only [Bool.and_eq_true, Array.isEmpty_iff] at hs
      obtain ⟨rfl, hs⟩ := hs
      obtain ⟨rfl, rfl, rfl⟩ := val_inj hop
      rw [memNew_nil, memUp_nil]
      have hm := map_ev hev (l := cap.toList) rfl (mem_solidL.1 hs)
      refine came_pure h ?_ (by simpa [okv, solid] using hs) ?_
      · have e : cap.map aev = (concT ρ (cap.toList.map ev)).toArray := by
          apply Array.toList_inj.1
          rw [Array.toList_map, hm, concT_eq]
        simp only [execOp, Instr.makeFunc, Sem.run_bind, Sem.run_pure, Result.andThen_ok, conc, e, Array.map_empty]
      · intro c hc
        simp only [refs] at hc
        obtain ⟨u, hu, hc⟩ := mem_refsL.1 hc
        obtain ⟨x, -, rfl⟩ := List.mem_map.1 hu
        exact (hev x).refs_mem c hc
    · simp at hop
  · -- makeSlice
    rename_i t l c
    split at hop
    · rename_i e es eb ez sz z q k1 n k2 m hi hl hc
      split at hop
      · rename_i hb
        obtain ⟨rfl, rfl, rfl⟩ := val_inj hop
        rw [memUp_nil]
        obtain ⟨el, -, -⟩ := (hev l).get (by rw [hl]; simp)
        obtain ⟨ec, -, -⟩ := (hev c).get (by rw [hc]; simp)
        rw [hl, conc] at el; rw [hc, conc] at ec
        have := ok_makeSlice (P := P) hT h (hn (by simp)) (k1 := k1) (k2 := k2) hi hb
        rw [← el, ← ec] at this
        exact this
      · simp at hop
    · simp at hop
  · -- slice
    rename_i t x lo hi'
    have fin : ∀ {e : TypeId} {es eb sz : Nat} {ez z : AV} {q : Bool} {b o len cap : Nat} (hi : T t = some ⟨.slice e es eb ez, sz, z, q⟩) (hx : ev x = .slice b o len cap) {l hh : Int}
        (hlo : (lo.map aev = none ∧ l = 0) ∨ ∃ k, lo.map aev = some (.int k l)) (hhi : (hi'.map aev = none ∧ hh = len) ∨ ∃ k, hi'.map aev = some (.int k hh)),
        (match sliceA es cap b o l hh with | some v => OR.val v [] [] | none => .fail) = .val v up nw → Came P D ρ0 w0 ρ mem (memNew (memUp mem up) nxt nw) v (execOp aev { dst := dst, op := .slice t x lo hi' none, type := type, pos := pos, after := after, guard := guard }) w := by
      intro e es eb sz ez z q b o len cap hi hx l hh hlo hhi hop
      split at hop
      · rename_i u hu
        obtain ⟨rfl, rfl, rfl⟩ := val_inj hop
        rw [memNew_nil, memUp_nil]
        obtain ⟨ex, -, ec⟩ := (hev x).get (by rw [hx]; simp)
        rw [hx] at ex ec
        have hle : (len : Int) ≤ cap ∨ ∃ k, hi'.map aev = some (.int k hh) := by
          rcases hhi with ⟨-, rfl⟩ | hk
          · exact .inl (sliceA_spec hu).2.2.1
          · exact .inr hk
        have := ok_slice (P := P) hT h hi (ec b (by simp [refs])) hlo (hi' := hi'.map aev) (hh := hh) (by
          rcases hhi with ⟨a, c⟩ | hk
          · rcases hle with hle | hk
            · exact .inl ⟨a, c, hle⟩
            · exact .inr hk
          · exact .inr hk) hu
        rw [← ex] at this
        exact this
      · simp at hop
    have sm : ∀ {p : Option Operand} {k : IntKind} {n : Int}, p.map ev = some (.int k n) → ∃ k', p.map aev = some (.int k' n) := by
      intro p k n hp
      cases p with
      | none => simp at hp
      | some y =>
        simp only [Option.map_some, Option.some.injEq] at hp
        obtain ⟨ey, -, -⟩ := (hev y).get (by rw [hp]; simp)
        rw [hp, conc] at ey
        exact ⟨k, by simp [ey]⟩
    have nn : ∀ {p : Option Operand}, p.map ev = none → p.map aev = none := by
      intro p hp; cases p <;> simp_all
    split at hop
    · rename_i hi hx hlo hhi
      exact fin hi hx (.inl ⟨nn hlo, rfl⟩) (.inl ⟨nn hhi, rfl⟩) hop
    · rename_i hi hx hlo hhi
      exact fin hi hx (.inr (sm hlo)) (.inl ⟨nn hhi, rfl⟩) hop
    · rename_i hi hx hlo hhi
      exact fin hi hx (.inl ⟨nn hlo, rfl⟩) (.inr (sm hhi)) hop
    · rename_i hi hx hlo hhi
      exact fin hi hx (.inr (sm hlo)) (.inr (sm hhi)) hop
    · rename_i n es ea sz z q b o hi hx hlo hhi
      split at hop
      · rename_i u hu
        obtain ⟨rfl, rfl, rfl⟩ := val_inj hop
        rw [memNew_nil, memUp_nil]
        obtain ⟨ex, -, ec⟩ := (hev x).get (by rw [hx]; simp)
        rw [hx] at ex ec
        have := ok_sliceArr (P := P) hT h hi (ec b (by simp [refs])) hu
        rw [← ex] at this
        simp only [execOp, nn hlo, nn hhi, Option.map_none]
        exact this
      · simp at hop
    · simp at hop
  · -- fieldAddr
    rename_i s x f
    split at hop
    · rename_i fs sz z q b o hi hx
      split at hop
      · rename_i off n ag hf
        split at hop
        · simp at hop
        · rename_i hn0
          obtain ⟨rfl, rfl, rfl⟩ := val_inj hop
          rw [memNew_nil, memUp_nil]
          obtain ⟨flds, hu, rfl, hex⟩ := (hT s _ hi).kind
          obtain ⟨ex, -, ec⟩ := (hev x).get (by rw [hx]; simp)
          rw [hx] at ex ec
          simp only [List.getElem?_map, Option.map_eq_some_iff, Array.getElem?_toList, Prod.mk.injEq] at hf
          obtain ⟨fl, hfl, rfl, rfl, rfl⟩ := hf
          obtain ⟨j, d, hj, hd⟩ := hex fl (by rw [Array.mem_toList_iff]; exact Array.mem_of_getElem? hfl)
          have hjs : j.size ≠ 0 := by simpa [Program.cellsOf, hj] using hn0
          refine came_pure h ?_ rfl (by simpa [refs] using ec)
          simp only [execOp, ex, conc, Instr.fieldAt, Sem.run_bind, run_underlying hu, Result.andThen_ok, hfl, Instr.sureAddr, Sem.run_pure, fieldPlace, run_sizeOf hj, hjs, if_false, Addr.add_lit]
      · simp at hop
    · simp at hop
  · -- field
    rename_i s x f
    split at hop
    · rename_i fs sz z q hi
      obtain ⟨flds, hu, rfl, hex⟩ := (hT s _ hi).kind
      have fin : ∀ {off n : Nat} {ag : Bool} (hf : (flds.toList.map fun f => (f.offset, P.cellsOf f.type, isAggT P f.type))[f]? = some (off, n, ag)),
          ∃ fl j d, flds[f]? = some fl ∧ P.info? fl.type = some j ∧ P.underlying fl.type = some d ∧ fl.offset = off ∧ j.size = n ∧ isAggT P fl.type = ag := by
        intro off n ag hf
        simp only [List.getElem?_map, Option.map_eq_some_iff, Array.getElem?_toList, Prod.mk.injEq] at hf
        obtain ⟨fl, hfl, h1, h2, h3⟩ := hf
        obtain ⟨j, d, hj, hd⟩ := hex fl (by rw [Array.mem_toList_iff]; exact Array.mem_of_getElem? hfl)
        exact ⟨fl, j, d, hfl, hj, hd, h1, by simpa [Program.cellsOf, hj] using h2, h3⟩
      split at hop
      · rename_i off n l hf hx
        split at hop
        · split at hop
          · rename_i a hr
            obtain ⟨rfl, rfl, rfl⟩ := val_inj hop
            rw [memNew_nil, memUp_nil]
            obtain ⟨fl, j, d, hfl, hj, hd, rfl, rfl, hag⟩ := fin hf
            obtain ⟨ex, es, ec⟩ := (hev x).get (by rw [hx]; simp)
            rw [hx] at ex es ec
            refine ok_readAgg (s := Instr.field s (aev x) f) h hr (by simpa [okv, solid] using es) (by simpa [refs] using ec) ?_
            simp only [Instr.field, Sem.run_bind, run_underlying hu, Result.andThen_ok, hfl, ex, conc, Go.asAgg, Sem.run_pure, part_agg hd hj hag]
          · simp at hop
        · simp at hop
      · rename_i off n l hf hx
        split at hop
        · split at hop
          · rename_i a hr
            obtain ⟨rfl, rfl, rfl⟩ := val_inj hop
            rw [memNew_nil, memUp_nil]
            obtain ⟨fl, j, d, hfl, hj, hd, rfl, rfl, hag⟩ := fin hf
            obtain ⟨ex, es, ec⟩ := (hev x).get (by rw [hx]; simp)
            rw [hx] at ex es ec
            refine ok_readCell (s := Instr.field s (aev x) f) h hr (by simpa [okv, solid] using es) (by simpa [refs] using ec) ?_
            intro y hy
            simp only [Instr.field, Sem.run_bind, run_underlying hu, Result.andThen_ok, hfl, ex, conc, Go.asAgg, Sem.run_pure]
            exact part_cell hd hag (by simpa using hy)
          · simp at hop
        · simp at hop
      · rename_i off n k m g hf hx
        split at hop
        · split at hop
          · rename_i a hr
            obtain ⟨rfl, rfl, rfl⟩ := val_inj hop
            rw [memNew_nil, memUp_nil]
            obtain ⟨fl, j, d, hfl, hj, hd, rfl, rfl, hag⟩ := fin hf
            obtain ⟨ex, es, ec⟩ := (hev x).get (by rw [hx]; simp)
            rw [hx] at ex es ec
            refine ok_readAgg (s := Instr.field s (aev x) f) h hr (by simp [solidL, solid]) (by simp [refsL, refs]) ?_
            simp only [Instr.field, Sem.run_bind, run_underlying hu, Result.andThen_ok, hfl, ex, conc, Go.asAgg, Sem.run_pure, part_agg hd hj hag, concC, Value.cells, List.append_nil]
          · simp at hop
        · simp at hop
      · simp at hop
    · simp at hop
  · -- indexAddr
    rename_i t x ix
    split at hop
    · rename_i n es ea sz z q b o k i hi hx hix
      split at hop
      · rename_i hb
        obtain ⟨rfl, rfl, rfl⟩ := val_inj hop
        rw [memNew_nil, memUp_nil]
        obtain ⟨e, hu, ⟨j, d, hj, hjs, hd⟩, -⟩ := (hT t _ hi).kind
        obtain ⟨ex, -, ec⟩ := (hev x).get (by rw [hx]; simp)
        obtain ⟨ei, -, -⟩ := (hev ix).get (by rw [hix]; simp)
        rw [hx] at ex ec; rw [hix] at ei
        refine came_pure h ?_ rfl (by simpa [refs] using ec)
        simp only [execOp, ex, ei, conc, Instr.indexAt, asIntOf, Sem.run_bind, Sem.run_pure, run_underlying hu, Result.andThen_ok, Instr.sureAddr, hb, and_self, if_true, run_sizeOf hj, hjs, Addr.add_lit]
      · simp at hop
    · rename_i e es eb ez sz z q b o n c k i hi hx hix
      split at hop
      · rename_i hb
        obtain ⟨rfl, rfl, rfl⟩ := val_inj hop
        rw [memNew_nil, memUp_nil]
        obtain ⟨hu, ⟨j, hj, hjs, -⟩, -⟩ := (hT t _ hi).kind
        obtain ⟨ex, -, ec⟩ := (hev x).get (by rw [hx]; simp)
        obtain ⟨ei, -, -⟩ := (hev ix).get (by rw [hix]; simp)
        rw [hx] at ex ec; rw [hix] at ei
        refine came_pure h ?_ rfl (by simpa [refs] using ec)
        simp only [execOp, ex, ei, conc, Instr.indexAt, asIntOf, Sem.run_bind, Sem.run_pure, run_underlying hu, Result.andThen_ok, hb, and_self, if_true, run_sizeOf hj, hjs, Addr.add_lit]
      · simp at hop
    · simp at hop
  · -- index
    rename_i t x ix
    split at hop
    · rename_i n es ea sz z q k i hi hix
      split at hop
      · rename_i hb
        obtain ⟨e, hu, ⟨j, d, hj, hjs, hd⟩, hag⟩ := (hT t _ hi).kind
        obtain ⟨ei, -, -⟩ := (hev ix).get (by rw [hix]; simp)
        rw [hix] at ei
        split at hop
        · rename_i l hx
          split at hop
          · rename_i a hr
            obtain ⟨rfl, rfl, rfl⟩ := val_inj hop
            rw [memNew_nil, memUp_nil]
            obtain ⟨ex, es', ec⟩ := (hev x).get (by rw [hx]; simp)
            rw [hx] at ex es' ec
            refine ok_readAgg (s := Instr.index t (aev x) (aev ix)) h hr (by simpa [okv, solid] using es') (by simpa [refs] using ec) ?_
            have hpa := part_agg (w := w) hd hj hag
            simp only [Instr.index, ei, ex, conc, asIntOf, Sem.run_bind, Sem.run_pure, run_underlying hu, Result.andThen_ok, hb, and_self, if_true, run_sizeOf hj, hpa, hjs]
          · simp at hop
        · rename_i l hx
          split at hop
          · rename_i a hr
            obtain ⟨rfl, rfl, rfl⟩ := val_inj hop
            rw [memNew_nil, memUp_nil]
            obtain ⟨ex, es', ec⟩ := (hev x).get (by rw [hx]; simp)
            rw [hx] at ex es' ec
            refine ok_readCell (s := Instr.index t (aev x) (aev ix)) h hr (by simpa [okv, solid] using es') (by simpa [refs] using ec) ?_
            intro y hy
            simp only [Instr.index, ei, ex, conc, asIntOf, Sem.run_bind, Sem.run_pure, run_underlying hu, Result.andThen_ok, hb, and_self, if_true, run_sizeOf hj, hjs]
            exact part_cell hd hag (by simpa using hy)
          · simp at hop
        · rename_i k' m g hx
          split at hop
          · rename_i hm
            obtain ⟨rfl, rfl, rfl⟩ := val_inj hop
            rw [memNew_nil, memUp_nil]
            obtain ⟨ex, es', ec⟩ := (hev x).get (by rw [hx]; simp)
            rw [hx] at ex es' ec
            refine came_pure h ?_ rfl (by simp [refs])
            have hp : (part e (arrCells k' m g).toArray (i.toNat * es)).run P w = .ok (.int k' (g (i.toNat * es))) w := part_cell hd hag (by simp [arrCells, hm])
            simp only [execOp, Instr.index, ei, ex, conc, asIntOf, Sem.run_bind, Sem.run_pure, run_underlying hu, Result.andThen_ok, hb, and_self, if_true, run_sizeOf hj, hjs, hp]
          · simp at hop
        · simp at hop
      · simp at hop
    · simp at hop
  · -- extract
    rename_i x i
    split at hop
    · rename_i l hx
      split at hop
      · rename_i u hu
        obtain ⟨rfl, rfl, rfl⟩ := val_inj hop
        rw [memNew_nil, memUp_nil]
        obtain ⟨ex, es, ec⟩ := (hev x).get (by rw [hx]; simp)
        rw [hx] at ex es ec
        have hm : u ∈ l := List.mem_of_getElem? hu
        refine came_pure h ?_ (okv_of_solid (mem_solidL.1 (by simpa [okv] using es) u hm)) (fun c hc => ec c (by simp only [refs]; exact mem_refsL.2 ⟨u, hm, hc⟩))
        simp [execOp, ex, conc, Instr.extract, concT_eq, hu]
      · simp at hop
    · simp at hop
  · -- typeAssert
    rename_i x xt t ok
    split at hop
    · simp at hop
    · simp at hop
    · simp at hop
    · rename_i i u y hni hno hi hx
      obtain ⟨d, hd⟩ := (hT t _ hi).und
      have hk := (hT t _ hi).kind
      have hnd : ∀ ms, d ≠ .interface ms := by
        rintro ms rfl
        obtain ⟨kd, sz, z, q⟩ := i
        cases kd <;> simp only [] at hk <;> first
          | (exact (hni _ _ _ rfl).elim)
          | (exact (hno _ _ _ rfl).elim)
          | (rw [hd] at hk; simp at hk)
      obtain ⟨ex, es, ec⟩ := (hev x).get (by rw [hx]; simp)
      rw [hx] at ex es ec
      have es' : solid y = true := by simpa [okv, solid] using es
      have ec' : ∀ c ∈ refs y, mem c ≠ none := by simpa [refs] using ec
      have key : ∀ ok : Bool, (u = t → (Instr.typeAssert (aev x) xt t ok).run P w = .ok (if ok then .tuple #[conc ρ y, .bool true] else conc ρ y) w) ∧
          (u ≠ t → ok = true → (Instr.typeAssert (aev x) xt t ok).run P w = .ok (.tuple #[conc ρ i.zero, .bool false]) w) := by
        intro ok
        refine ⟨fun e => ?_, fun e ho => ?_⟩
        · subst e
          simp only [Instr.typeAssert, ex, conc, Sem.run_bind, run_underlying hd, Result.andThen_ok]
          cases d <;> first | exact (hnd _ rfl).elim | simp
        · subst ho
          simp only [Instr.typeAssert, ex, conc, Sem.run_bind, run_underlying hd, Result.andThen_ok]
          cases d <;> first | exact (hnd _ rfl).elim | simp [e, run_zero (hT t _ hi) ρ]
      obtain ⟨z1, z2, z3⟩ := (hT t _ hi).zero
      split at hop
      · rename_i hut
        have k1 := (key ok).1 hut
        split at hop
        · rename_i hok
          obtain ⟨rfl, rfl, rfl⟩ := val_inj hop
          rw [memNew_nil, memUp_nil]
          refine came_pure h ?_ (by simp [okv, solidL, solid, es']) (by simpa [refs, refsL] using ec')
          simp only [execOp, Sem.run_bind, k1, Result.andThen_ok, Sem.run_pure]
          simp [hok, conc, concT]
        · rename_i hok
          obtain ⟨rfl, rfl, rfl⟩ := val_inj hop
          rw [memNew_nil, memUp_nil]
          refine came_pure h ?_ (okv_of_solid es') ec'
          simp only [execOp, Sem.run_bind, k1, Result.andThen_ok, Sem.run_pure]
          simp [hok]
      · rename_i hut
        split at hop
        · rename_i hok
          have k2 := (key ok).2 hut hok
          obtain ⟨rfl, rfl, rfl⟩ := val_inj hop
          rw [memNew_nil, memUp_nil]
          refine came_pure h ?_ (by simp [okv, solidL, solid, z2]) (by simp [refs, refsL, z1])
          simp only [execOp, Sem.run_bind, k2, Result.andThen_ok, Sem.run_pure]
          simp [conc, concT]
        · simp at hop
    · simp at hop
  · -- panic
    split at hop <;> simp at hop
  · -- len
    rename_i args argTypes
    have ex0 : ∀ {y : AV}, (args[0]?).map ev = some y → y ≠ .undef → ∃ q, args[0]? = some q ∧ aev q = conc ρ y := by
      intro y hy hu
      cases ha : args[0]? with
      | none => simp [ha] at hy
      | some q =>
        simp only [ha, Option.map_some, Option.some.injEq] at hy
        exact ⟨q, rfl, by have := ((hev q).get (by rw [hy]; exact hu)).1; rw [hy] at this; exact this⟩
    split at hop
    · rename_i e es eb ez sz z q b o n c ht ha
      obtain ⟨rfl, rfl, rfl⟩ := val_inj hop
      rw [memNew_nil, memUp_nil]
      obtain ⟨p, hp, hap⟩ := ex0 ha (by simp)
      cases hat : argTypes[0]? with
      | none => simp [hat] at ht
      | some t =>
        simp only [hat, Option.bind_some] at ht
        obtain ⟨hu, -⟩ := (hT t _ ht).kind
        refine came_pure h ?_ rfl (by simp [refs])
        simp [execOp, resolve, invoke, builtin, Builtin.len_, hat, hp, hap, conc, run_underlying hu, goInt]
    · rename_i e es eb ez sz z q ht ha
      obtain ⟨rfl, rfl, rfl⟩ := val_inj hop
      rw [memNew_nil, memUp_nil]
      obtain ⟨p, hp, hap⟩ := ex0 ha (by simp)
      cases hat : argTypes[0]? with
      | none => simp [hat] at ht
      | some t =>
        simp only [hat, Option.bind_some] at ht
        obtain ⟨hu, -⟩ := (hT t _ ht).kind
        refine came_pure h ?_ rfl (by simp [refs])
        simp [execOp, resolve, invoke, builtin, Builtin.len_, hat, hp, hap, conc, run_underlying hu, goInt]
    · rename_i n es ea sz z q y ht ha
      obtain ⟨rfl, rfl, rfl⟩ := val_inj hop
      rw [memNew_nil, memUp_nil]
      cases hat : argTypes[0]? with
      | none => simp [hat] at ht
      | some t =>
        simp only [hat, Option.bind_some] at ht
        obtain ⟨e, hu, -⟩ := (hT t _ ht).kind
        cases hp : args[0]? with
        | none => simp [hp] at ha
        | some p =>
          refine came_pure h ?_ rfl (by simp [refs])
          simp [execOp, resolve, invoke, builtin, Builtin.len_, hat, hp, conc, run_underlying hu, goInt]
    · simp at hop
  · -- min
    rename_i args argTypes
    split at hop
    · rename_i k a k' b ha
      obtain ⟨rfl, rfl, rfl⟩ := val_inj hop
      rw [memNew_nil, memUp_nil]
      have hm := map_ev hev ha (by simp [solid])
      refine came_pure h ?_ rfl (by simp [refs])
      have hl : args.toList.map aev = [.int k a, .int k' b] := by rw [hm]; rfl
      simp [execOp, resolve, invoke, builtin, Builtin.min_, hl, run_min2, conc]
    · rename_i k a k' b k'' c ha
      obtain ⟨rfl, rfl, rfl⟩ := val_inj hop
      rw [memNew_nil, memUp_nil]
      have hm := map_ev hev ha (by simp [solid])
      refine came_pure h ?_ rfl (by simp [refs])
      have hl : args.toList.map aev = [.int k a, .int k' b, .int k'' c] := by rw [hm]; rfl
      simp [execOp, resolve, invoke, builtin, Builtin.min_, hl, run_min2, conc]
    · simp at hop
  · -- max
    rename_i args argTypes
    split at hop
    · rename_i k a k' b ha
      obtain ⟨rfl, rfl, rfl⟩ := val_inj hop
      rw [memNew_nil, memUp_nil]
      have hm := map_ev hev ha (by simp [solid])
      refine came_pure h ?_ rfl (by simp [refs])
      have hl : args.toList.map aev = [.int k a, .int k' b] := by rw [hm]; rfl
      simp [execOp, resolve, invoke, builtin, Builtin.max_, hl, run_max2, conc]
    · rename_i k a k' b k'' c ha
      obtain ⟨rfl, rfl, rfl⟩ := val_inj hop
      rw [memNew_nil, memUp_nil]
      have hm := map_ev hev ha (by simp [solid])
      refine came_pure h ?_ rfl (by simp [refs])
      have hl : args.toList.map aev = [.int k a, .int k' b, .int k'' c] := by rw [hm]; rfl
      simp [execOp, resolve, invoke, builtin, Builtin.max_, hl, run_max2, conc]
    · simp at hop
  · simp at hop

end
end Go.X
