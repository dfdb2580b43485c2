/- Each operation on abstract values is the machine's: all together. Plain: no program in sight. -/
import Derived.Test.YticlgpdmelhbhaaXF
namespace Go.X

section
variable {P : Program} {D : Nat → Prop} {ρ0 ρ : Nat → Nat} {w0 w : World} {mem : Mem} {T : TT} {ev : Operand → AV} {aev : Operand → Value} {nxt : Nat}

theorem val_inj {v v' : AV} {up up' : List (Nat × List AV)} {nw nw' : List Blk} (h : OR.val v up nw = .val v' up' nw') : v = v' ∧ up = up' ∧ nw = nw' := by
  injection h with a b c; exact ⟨a, b, c⟩

theorem came_fresh (h : Inv D ρ0 w0 ρ mem w) (hn : mem nxt = none) (t : TypeId) {l : List AV} (hl : solidL l = true) (hr : ∀ c ∈ refsL l, mem c ≠ none) {cells : Array Value} (hc : cells = (concC ρ l).toArray)
    {v : AV} {s : Sem Next} {f : Addr → Value} (hs : ∀ a w', (newRow t cells).run P w = .ok a w' → s.run P w = .ok (.value (f a)) w') (hv : okv v = true) (hrv : refs v = [nxt]) (hf : ∀ ρ' : Nat → Nat, conc ρ' v = f ⟨ρ' nxt, 0, none⟩) :
    Came P D ρ0 w0 ρ mem (memNew mem nxt [⟨l, t⟩]) v s w := by
  obtain ⟨w', ρ', h1, h2, h3, h4⟩ := new_ok (P := P) h hn t hl hr hc
  exact ⟨_, w', ρ', _, hs _ _ h1, .inl rfl, .inr ⟨(hf ρ').symm, hv, by rw [hrv]; intro c hc; simp only [List.mem_singleton] at hc; subst hc; exact h4⟩, h2, h3⟩

theorem ok_move {x : Operand} (h : Inv D ρ0 w0 ρ mem w) (hev : ∀ x, SR ρ mem (ev x) (aev x)) : Came P D ρ0 w0 ρ mem mem (ev x) (pure (.value (aev x))) w :=
  ⟨_, w, ρ, _, rfl, .inl rfl, hev x, h, Later.refl _ _⟩

theorem ok_build (hT : TOk P T) (h : Inv D ρ0 w0 ρ mem w) (hev : ∀ x, SR ρ mem (ev x) (aev x)) {t : TypeId} {parts : Array (Nat × Operand)} {i : TI} (hi : T t = some i) {place : Nat → Option (Nat × Nat)} {l : List AV}
    (hl : fillA place (items i.zero) (parts.toList.map fun p => (p.1, ev p.2)) = some l)
    (hrun : ∀ cells : Array Value, Instr.fill place (concC ρ (items i.zero)).toArray (parts.toList.map fun p => (p.1, aev p.2)) = some cells →
      (Instr.build t (parts.map fun (i, x) => (i, aev x))).run P w = .ok (.agg cells) w) :
    Came P D ρ0 w0 ρ mem mem (asAgg l) (do pure (.value (← Instr.build t (parts.map fun (i, x) => (i, aev x))))) w := by
  have ti := hT t i hi
  obtain ⟨z1, z2, z3⟩ := ti.zero
  have hs : ∀ (parts : List (Nat × AV)) (l l' : List AV), fillA place l parts = some l' → ∀ p ∈ parts, solid p.2 = true := by
    intro parts
    induction parts with
    | nil => simp
    | cons p parts ih =>
      intro l l' hf q hq
      simp only [fillA] at hf
      split at hf
      · simp at hf
      · split at hf
        · rename_i hc
          split at hf
          · simp only [List.mem_cons] at hq
            rcases hq with rfl | hq
            · simp only [Bool.and_eq_true] at hc; exact hc.1
            · exact ih _ _ hf q hq
          · simp at hf
        · simp at hf
  have hsol := hs _ _ _ hl
  obtain ⟨f1, f2, f3, -⟩ := fill_ok (ρ := ρ) (mem := mem) hl (by rw [solidL_items]; exact z2) (fun p hp => by
    simp only [List.mem_map] at hp
    obtain ⟨q, -, rfl⟩ := hp
    exact (hev q.2).refs_mem) (fun c hc => by rw [refsL_items, z1] at hc; simp at hc)
  have e : (parts.toList.map fun p => (p.1, ev p.2)).map (fun p => (p.1, conc ρ p.2)) = parts.toList.map fun p => (p.1, aev p.2) := by
    rw [List.map_map]
    apply List.map_congr_left
    intro p hp
    simp only [Function.comp, Prod.mk.injEq, true_and]
    exact ((hev p.2).solid (hsol _ (List.mem_map.2 ⟨p, hp, rfl⟩))).symm
  rw [e] at f1
  have hr := hrun _ f1
  refine came_pure h ?_ (okv_of_solid (by rw [solid_asAgg]; exact f2)) (by rw [refs_asAgg]; exact f3)
  simp only [Sem.run_bind, hr, Result.andThen_ok, Sem.run_pure, conc_asAgg]

theorem run_zero {t : TypeId} {i : TI} (ti : TIok P t i) (ρ : Nat → Nat) : (zeroValue t).run P w = .ok (conc ρ i.zero) w := by
  obtain ⟨inf, h1, -, h3⟩ := ti.info
  rw [conc_noref ti.zero.1 ρ id]
  simp [zeroValue, typeInfo, h1, h3]

theorem run_mapM_fields : ∀ (l : List Field), (∀ f ∈ l, ∃ j d, P.info? f.type = some j ∧ P.underlying f.type = some d) →
    (l.mapM fun f => (do pure (f.offset, ← sizeOf f.type) : Sem (Nat × Nat))).run P w = .ok (l.map fun f => (f.offset, P.cellsOf f.type)) w
  | [], _ => by simp
  | f :: l, h => by
    obtain ⟨j, d, hj, hd⟩ := h f (by simp)
    have ih := run_mapM_fields l (fun g hg => h g (by simp [hg]))
    rw [List.mapM_cons]
    simp only [Sem.run_bind, run_sizeOf hj, Result.andThen_ok, Sem.run_pure, ih, List.map_cons, Program.cellsOf, hj, Option.map_some, Option.getD_some]

theorem run_build_struct {t : TypeId} {i : TI} (ti : TIok P t i) {fs : List (Nat × Nat × Bool)} (hk : i.kind = .struct fs) {parts : Array (Nat × Value)} {cells : Array Value}
    (hf : Instr.fill (fun j => (fs[j]?).map fun f => (f.1, f.2.1)) (concC ρ (items i.zero)).toArray parts.toList = some cells) : (Instr.build t parts).run P w = .ok (.agg cells) w := by
  have hkk := ti.kind
  rw [hk] at hkk
  obtain ⟨flds, hu, rfl, hex⟩ := hkk
  have hm := run_mapM_fields (P := P) (w := w) flds.toList hex
  simp only [Instr.build, Sem.run_bind, run_zero ti ρ, Result.andThen_ok, run_underlying hu]
  rw [Array.mapM_eq_mapM_toList]
  simp only [Sem.run_map, hm, Result.andThen_ok]
  have e : (fun j : Nat => (flds.toList.map fun f => (f.offset, P.cellsOf f.type)).toArray[j]?) = fun j : Nat => ((flds.toList.map fun f => (f.offset, P.cellsOf f.type, isAggT P f.type))[j]?).map (fun f : Nat × Nat × Bool => (f.1, f.2.1)) := by
    funext j
    simp only [List.getElem?_toArray, List.getElem?_map, Option.map_map]
    rfl
  have e2 : (conc ρ i.zero).cells = (concC ρ (items i.zero)).toArray := by rw [concC_items]
  rw [e, e2]
  rw [hf]
  rfl

theorem run_build_array {t : TypeId} {i : TI} (ti : TIok P t i) {n es : Nat} {ea : Bool} (hk : i.kind = .array n es ea) {parts : Array (Nat × Value)} {cells : Array Value}
    (hf : Instr.fill (fun j => some (j * es, es)) (concC ρ (items i.zero)).toArray parts.toList = some cells) : (Instr.build t parts).run P w = .ok (.agg cells) w := by
  have hkk := ti.kind
  rw [hk] at hkk
  obtain ⟨e, hu, ⟨j, d, hj, hjs, hd⟩, -⟩ := hkk
  simp only [Instr.build, Sem.run_bind, run_zero ti ρ, Result.andThen_ok, run_underlying hu, run_sizeOf hj, hjs]
  have e2 : (conc ρ i.zero).cells = (concC ρ (items i.zero)).toArray := by rw [concC_items]
  rw [e2, hf]
  rfl

theorem ok_buildSlice (hT : TOk P T) (h : Inv D ρ0 w0 ρ mem w) (hn : mem nxt = none) (hev : ∀ x, SR ρ mem (ev x) (aev x)) {t : TypeId} {n : Nat} {parts : Array (Nat × Operand)} {e : TypeId} {es eb sz : Nat} {ez z : AV} {q : Bool} {l : List AV}
    (hi : T t = some ⟨.slice e es eb ez, sz, z, q⟩) (hb : n * es ≤ 65536 ∧ 0 < es)
    (hl : fillA (fun i => some (i * es, es)) (List.replicate n (items ez)).flatten (parts.toList.map fun p => (p.1, ev p.2)) = some l) :
    Came P D ρ0 w0 ρ mem (memNew mem nxt [⟨packI l, e⟩]) (.slice nxt 0 n n) (do pure (.value (← Instr.buildSlice t n (parts.map fun (i, x) => (i, aev x))))) w := by
  obtain ⟨hu, ⟨j, hj, hjs, -, hjz⟩, z1, z2, z3⟩ := (hT t _ hi).kind
  have hs : ∀ (parts : List (Nat × AV)) (l l' : List AV), fillA (fun i => some (i * es, es)) l parts = some l' → ∀ p ∈ parts, solid p.2 = true := by
    intro parts
    induction parts with
    | nil => simp
    | cons p parts ih =>
      intro l l' hf q hq
      simp only [fillA] at hf
      split at hf
      · rename_i hc
        split at hf
        · simp only [List.mem_cons] at hq
          rcases hq with rfl | hq
          · simp only [Bool.and_eq_true] at hc; exact hc.1
          · exact ih _ _ hf q hq
        · simp at hf
      · simp at hf
  have hsol := hs _ _ _ hl
  have hsz : solidL (List.replicate n (items ez)).flatten = true := by
    rw [mem_solidL]; intro u hu'
    simp only [List.mem_flatten, List.mem_replicate] at hu'
    obtain ⟨l', ⟨-, rfl⟩, hu'⟩ := hu'
    exact (mem_solidL.1 (by rw [solidL_items]; exact z2)) u hu'
  have hrz : ∀ c ∈ refsL (List.replicate n (items ez)).flatten, mem c ≠ none := by
    intro c hc
    obtain ⟨u, hu', hc⟩ := mem_refsL.1 hc
    simp only [List.mem_flatten, List.mem_replicate] at hu'
    obtain ⟨l', ⟨-, rfl⟩, hu'⟩ := hu'
    have : c ∈ refsL (items ez) := mem_refsL.2 ⟨u, hu', hc⟩
    rw [refsL_items, z1] at this
    simp at this
  obtain ⟨f1, f2, f3, -⟩ := fill_ok (ρ := ρ) (mem := mem) hl hsz (fun p hp => by
    simp only [List.mem_map] at hp
    obtain ⟨q, -, rfl⟩ := hp
    exact (hev q.2).refs_mem) hrz
  have e1 : (parts.toList.map fun p => (p.1, ev p.2)).map (fun p => (p.1, conc ρ p.2)) = parts.toList.map fun p => (p.1, aev p.2) := by
    rw [List.map_map]
    apply List.map_congr_left
    intro p hp
    simp only [Function.comp, Prod.mk.injEq, true_and]
    exact ((hev p.2).solid (hsol _ (List.mem_map.2 ⟨p, hp, rfl⟩))).symm
  rw [e1, concC_flatten_replicate, concC_items] at f1
  obtain ⟨p1, p2, p3⟩ := concC_packI ρ l
  have hzl : (conc ρ ez).cells.toList.length = es := by rw [length_cells, z3]
  refine came_fresh h hn e (by rw [p2]; exact f2) (by rw [p3]; exact f3) (cells := (concC ρ l).toArray) (by rw [p1]) (f := fun a => .slice (some a) n n) ?_ rfl rfl (fun ρ' => rfl)
  intro a w' hr
  have hzv : (zeroValue e).run P w = .ok (conc ρ ez) w := by
    rw [conc_noref z1 ρ id]; simp [zeroValue, typeInfo, hj, hjz]
  have f1' : Instr.fill (fun i => some (i * es, es)) (List.replicate n (conc ρ ez).cells.toList).flatten.toArray (parts.map fun p => (p.1, aev p.2)).toList = some (concC ρ l).toArray := by
    rw [Array.toList_map]; exact f1
  simp only [Instr.buildSlice, Sem.run_bind, run_underlying hu, Result.andThen_ok, run_sizeOf hj, hjs]
  rw [if_neg (by omega)]
  by_cases hc : n * es = 0
  · have : n = 0 := by
      rcases Nat.mul_eq_zero.1 hc with h' | h'
      · exact h'
      · omega
    subst this
    simp only [List.replicate_zero, List.flatten_nil] at f1'
    simp only [Nat.zero_mul, if_true, Sem.run_bind, Sem.run_pure, Result.andThen_ok, Array.range_zero', Array.map_empty, f1', hr]
  · have hrow : ((Array.range (n * es)).map fun i => (conc ρ ez).cells[i % (conc ρ ez).cells.size]!) = (List.replicate n (conc ρ ez).cells.toList).flatten.toArray := by
      have := range_mod (conc ρ ez).cells.toList n (by omega)
      rw [hzl] at this
      rw [← this]
      apply Array.toList_inj.1
      simp [← Array.length_toList, hzl]
    rw [if_neg hc]
    simp only [Sem.run_bind, hzv, Sem.run_pure, Result.andThen_ok, hrow, f1', hr]

theorem madeCells_copies {ez : AV} {es : Nat} (z3 : width ez = es) (hes : 0 < es) (n : Nat) : madeCells (conc ρ ez).cells (n * es) = (concC ρ (copies n ez)).toArray := by
  have hzl : (conc ρ ez).cells.toList.length = es := by rw [length_cells, z3]
  rw [concC_copies]
  have := range_mod (conc ρ ez).cells.toList n (by omega)
  rw [hzl] at this
  rw [← this]
  apply Array.toList_inj.1
  simp [madeCells, ← Array.length_toList, hzl]

theorem ok_makeSlice (hT : TOk P T) (h : Inv D ρ0 w0 ρ mem w) (hn : mem nxt = none) {t : TypeId} {e : TypeId} {es eb sz : Nat} {ez z : AV} {q : Bool} {k1 k2 : IntKind} {n m : Int}
    (hi : T t = some ⟨.slice e es eb ez, sz, z, q⟩) (hb : 0 ≤ n ∧ n ≤ m ∧ m ≤ 68719476736 ∧ eb ≤ 256 ∧ 0 < es) :
    Came P D ρ0 w0 ρ mem (memNew mem nxt [⟨copies m.toNat ez, e⟩]) (.slice nxt 0 n.toNat m.toNat) (do pure (.value (← Instr.makeSlice t (.int k1 n) (.int k2 m)))) w := by
  obtain ⟨hu, ⟨j, hj, hjs, hjb, hjz⟩, z1, z2, z3⟩ := (hT t _ hi).kind
  obtain ⟨b1, b2, b3, b4, b5⟩ := hb
  have hbm : (j.bytes : Int) * m ≤ 281474976710656 := by
    have h1 : (j.bytes : Int) * m ≤ 256 * m := Int.mul_le_mul_of_nonneg_right (by omega) (by omega)
    omega
  have hr := run_make (P := P) w t e j _ hu hj hjz k1 k2 n m b1 b2 hbm (by omega)
  rw [hjs, conc_noref z1 id ρ, madeCells_copies z3 b5] at hr
  obtain ⟨ρ', h1, h2, h3⟩ := h.alloc hn e (solid_copies m.toNat z2) (by rw [refs_copies _ z1]; simp)
  refine ⟨_, _, ρ', .slice (some ⟨w.heap.size, 0, none⟩) n.toNat m.toNat, ?_, .inl rfl, .inr ⟨by simp [conc, h3], rfl, ?_⟩, h1, h2⟩
  · simp only [Sem.run_bind, hr, Result.andThen_ok, Sem.run_pure]
  · simp [refs, memNew]

theorem run_bound {k : IntKind} {i : Int} {y : Nat} {c : BoundsCode} (h : 0 ≤ i ∧ i ≤ y) : (Instr.sliceBound (.int k i) y c).run P w = .ok i.toNat w := by
  simp [Instr.sliceBound, asIntOf, h]

theorem sliceA_spec {es cap b o : Nat} {l hh : Int} {v : AV} (h : sliceA es cap b o l hh = some v) : 0 ≤ l ∧ l ≤ hh ∧ hh ≤ cap ∧ okv v = true ∧ refs v = [b] ∧
    ∀ ρ : Nat → Nat, Value.slice (if cap = l.toNat then some ⟨ρ b, o, none⟩ else (some (⟨ρ b, o, none⟩ : Addr)).map (·.add (l.toNat * es))) (hh.toNat - l.toNat) (cap - l.toNat) = conc ρ v := by
  unfold sliceA at h
  split at h
  · rename_i hc
    obtain ⟨h1, h2, h3⟩ := hc
    simp only [Option.some.injEq] at h
    subst h
    refine ⟨h1, h2, h3, rfl, rfl, fun ρ => ?_⟩
    by_cases he : (cap : Int) = l
    · rw [if_pos (by omega), if_pos he]; rfl
    · rw [if_neg (by omega), if_neg he]
      simp only [Option.map_some, Addr.add_lit, conc]
  · simp at h

theorem ok_slice (hT : TOk P T) (h : Inv D ρ0 w0 ρ mem w) {t : TypeId} {e : TypeId} {es eb sz : Nat} {ez z : AV} {q : Bool} {b o len cap : Nat} (hi : T t = some ⟨.slice e es eb ez, sz, z, q⟩) (hb : mem b ≠ none)
    {lo hi' : Option Value} {l hh : Int} (hlo : (lo = none ∧ l = 0) ∨ ∃ k, lo = some (.int k l)) (hhi : (hi' = none ∧ hh = len ∧ (len : Int) ≤ cap) ∨ ∃ k, hi' = some (.int k hh)) {v : AV} (hs : sliceA es cap b o l hh = some v) :
    Came P D ρ0 w0 ρ mem mem v (do pure (.value (← Instr.sliceAt t (conc ρ (.slice b o len cap)) lo hi' none))) w := by
  obtain ⟨hu, ⟨j, hj, hjs, hjb, hjz⟩, -⟩ := (hT t _ hi).kind
  obtain ⟨h1, h2, h3, h4, h5, h6⟩ := sliceA_spec hs
  refine came_pure h ?_ h4 (by rw [h5]; simp [hb])
  have hbs : (Instr.sliceBounds true len cap lo hi' none).run P w = .ok (l.toNat, hh.toNat, cap) w := by
    rcases hhi with ⟨rfl, rfl, -⟩ | ⟨k2, rfl⟩
    · rcases hlo with ⟨rfl, rfl⟩ | ⟨k1, rfl⟩
      · simp [Instr.sliceBounds]
      · have := run_bound (P := P) (w := w) (k := k1) (i := l) (y := len) (c := .sliceB) ⟨h1, by omega⟩
        simp [Instr.sliceBounds, this]
    · have hb2 := run_bound (P := P) (w := w) (k := k2) (i := hh) (y := cap) (c := .sliceAcap) ⟨by omega, h3⟩
      rcases hlo with ⟨rfl, rfl⟩ | ⟨k1, rfl⟩
      · simp [Instr.sliceBounds, hb2]
      · have := run_bound (P := P) (w := w) (k := k1) (i := l) (y := hh.toNat) (c := .sliceB) ⟨h1, by omega⟩
        simp [Instr.sliceBounds, this, hb2]
  have := h6 ρ
  simp only [Instr.sliceAt, Sem.run_bind, run_underlying hu, Result.andThen_ok, conc, Instr.slice, hbs, run_sizeOf hj, hjs, Sem.run_pure]
  rw [← this]

theorem ok_sliceArr (hT : TOk P T) (h : Inv D ρ0 w0 ρ mem w) {t : TypeId} {n es sz : Nat} {ea : Bool} {z : AV} {q : Bool} {b o : Nat} (hi : T t = some ⟨.array n es ea, sz, z, q⟩) (hb : mem b ≠ none) {v : AV} (hs : sliceA es n b o 0 n = some v) :
    Came P D ρ0 w0 ρ mem mem v (do pure (.value (← Instr.sliceAt t (conc ρ (.ptr b o)) none none none))) w := by
  obtain ⟨e, hu, ⟨j, d, hj, hjs, hd⟩, -⟩ := (hT t _ hi).kind
  obtain ⟨h1, h2, h3, h4, h5, h6⟩ := sliceA_spec hs
  refine came_pure h ?_ h4 (by rw [h5]; simp [hb])
  have := h6 ρ
  simp only [Instr.sliceAt, Sem.run_bind, run_underlying hu, Result.andThen_ok, conc, Instr.sureAddr, Instr.sliceBounds, run_sizeOf hj, hjs, Sem.run_pure]
  rw [← this]
  simp [Addr.add_zero']

end
end Go.X
