/- The operations on abstract values are the machine's: reading, storing, new blocks, numbers. Plain: no program in sight. -/
import Derived.Test.YticlgpdmelhbhaaXC
namespace Go.X

/-- what is asked of a row of the types' table -/
structure TIok (P : Program) (t : TypeId) (i : TI) : Prop where
  info : ∃ inf, P.info? t = some inf ∧ inf.size = i.size ∧ inf.zero = some (conc id i.zero)
  zero : refs i.zero = [] ∧ solid i.zero = true ∧ width i.zero = i.size
  und : ∃ d, P.underlying t = some d
  agg : isAggT P t = i.kind.agg
  kind : match i.kind with
    | .bool => P.underlying t = some .bool
    | .int k => P.underlying t = some (.int k)
    | .struct fs => ∃ flds, P.underlying t = some (.struct flds) ∧ fs = flds.toList.map (fun f => (f.offset, P.cellsOf f.type, isAggT P f.type)) ∧ ∀ f ∈ flds.toList, ∃ j d, P.info? f.type = some j ∧ P.underlying f.type = some d
    | .array n es ea => ∃ e, P.underlying t = some (.array n e) ∧ (∃ j d, P.info? e = some j ∧ j.size = es ∧ P.underlying e = some d) ∧ isAggT P e = ea
    | .slice e es eb ez => P.underlying t = some (.slice e) ∧ (∃ j, P.info? e = some j ∧ j.size = es ∧ j.bytes = eb ∧ j.zero = some (conc id ez)) ∧ refs ez = [] ∧ solid ez = true ∧ width ez = es
    | .ptr => ∃ e, P.underlying t = some (.pointer e)
    | .func => ∃ a b c, P.underlying t = some (.func a b c)
    | .iface => ∃ ms, P.underlying t = some (.interface ms)
    | .other => True
  eq : i.eq = true → P.eqGuardType P.depth t = false ∧ ∃ h, h ≤ 100 ∧ flat P h t = some i.size

def TOk (P : Program) (T : TT) : Prop := ∀ t i, T t = some i → TIok P t i

theorem conc_noref {v : AV} (h : refs v = []) (ρ σ : Nat → Nat) : conc ρ v = conc σ v := conc_congr v (by simp [h])

section
variable {P : Program} {D : Nat → Prop} {ρ0 ρ : Nat → Nat} {w0 w : World} {mem : Mem}

theorem Inv.cells (h : Inv D ρ0 w0 ρ mem w) {b o : Nat} {blk : Blk} (hb : mem b = some blk) (j : Nat) :
    w.cell? ((⟨ρ b, o, none⟩ : Addr).add j) = (concC ρ blk.items)[o + j]? := by
  rw [Addr.add_lit, World.cell?, h.row b blk hb]
  simp

theorem run_isAgg {t : TypeId} {d : TypeDesc} (hu : P.underlying t = some d) : (isAgg t).run P w = .ok (isAggT P t) w := by
  simp only [isAgg, isAggT, Sem.run_bind, run_underlying hu, Result.andThen_ok]
  cases d <;> simp [hu]

theorem run_sizeOf {t : TypeId} {j : TypeInfo} (hi : P.info? t = some j) : (sizeOf t).run P w = .ok j.size w := by
  simp [sizeOf, typeInfo, hi]

/-- loading -/
theorem load_ok {T : TT} (hT : TOk P T) (h : Inv D ρ0 w0 ρ mem w) {t : TypeId} {a v : AV} (hl : loadA T mem t a = some v) {x : Value} (hx : SR ρ mem a x) :
    (Instr.loadAt t x).run P w = .ok (conc ρ v) w ∧ okv v = true ∧ ∀ c ∈ refs v, mem c ≠ none := by
  cases a with
  | ptr b o =>
    simp only [loadA] at hl
    cases hi : T t with
    | none => simp [hi] at hl
    | some i =>
      cases hm : mem b with
      | none => simp [hi, hm] at hl
      | some blk =>
        simp only [hi, hm] at hl
        have ti := hT t i hi
        obtain ⟨inf, hinf, hsz, -⟩ := ti.info
        obtain ⟨rfl, -, -⟩ := hx.get (by simp)
        obtain ⟨hrf, hso⟩ := h.ref b blk hm
        obtain ⟨d, hd⟩ := ti.und
        simp only [Instr.loadAt, conc, Instr.sureAddr, Sem.run_bind, Sem.run_pure, Result.andThen_ok, loadVar, run_isAgg hd, ti.agg]
        by_cases hag : i.kind.agg = true
        · rw [if_pos hag] at hl
          cases hr : readRow blk.items o i.size with
          | none => simp [hr] at hl
          | some l =>
            simp only [hr, Option.map_some, Option.some.injEq] at hl
            subst hl
            obtain ⟨r1, r2, r3, r4⟩ := readRow_spec hr
            obtain ⟨p, q, hpq, hp⟩ := r1 ρ
            have hc := run_loadCells (P := P) w ⟨ρ b, o, none⟩ i.size (fun j => (concC ρ l).getD j Go.undef) (fun j hj => by
              rw [h.cells hm, hpq, List.append_assoc, List.getElem?_append_right (by omega), List.getElem?_append_left (by rw [length_concC, r2]; omega)]
              rw [show o + j - p.length = j from by omega]
              have : j < (concC ρ l).length := by rw [length_concC, r2]; exact hj
              simp [this])
            have he : (List.range i.size).map (fun j => (concC ρ l).getD j Go.undef) = concC ρ l := by
              apply List.ext_getElem
              · simp [length_concC, r2]
              · intro j h1 h2; simp [h2]
            rw [he] at hc
            simp only [hag, if_true, Sem.run_bind, run_sizeOf hinf, hsz, Result.andThen_ok, hc, Sem.run_pure, conc_asAgg]
            refine ⟨trivial, ?_, ?_⟩
            · apply okv_of_solid; rw [solid_asAgg]; exact r4 hso
            · rw [refs_asAgg]; exact fun c hc => hrf c (r3 c hc)
        · rw [if_neg hag] at hl
          obtain ⟨r1, r2, r3⟩ := readCell_spec hl
          have hc := h.cells (o := o) hm 0
          rw [Addr.add_zero', Nat.add_zero, r1 ρ] at hc
          simp only [hag, if_false, Bool.false_eq_true, run_load, hc]
          exact ⟨trivial, okv_of_solid (r3 hso), fun c hc => hrf c (r2 c hc)⟩
  | _ => simp [loadA] at hl

/-- storing -/
theorem store_ok {T : TT} (hT : TOk P T) (h : Inv D ρ0 w0 ρ mem w) {t : TypeId} {i : TI} (hi : T t = some i) {b o : Nat} {blk : Blk} (hm : mem b = some blk) {v : AV} (hs : solid v = true) (hw : width v = i.size)
    {l : List AV} (hl : writeRow blk.items o (items v) = some l) (hr : ∀ c ∈ refs v, mem c ≠ none) :
    (Instr.storeAt t (.pointer (some ⟨ρ b, o, none⟩)) (conc ρ v)).run P w = .ok () (w.setRow (ρ b) (concC ρ l).toArray) ∧
      Inv D ρ0 w0 ρ (memUp mem [(b, l)]) (w.setRow (ρ b) (concC ρ l).toArray) ∧ Later ρ mem ρ (memUp mem [(b, l)]) := by
  obtain ⟨inf, hinf, hsz, -⟩ := (hT t i hi).info
  obtain ⟨s1, s2, s3, s4⟩ := writeRow_spec hl
  obtain ⟨hrf, hso⟩ := h.ref b blk hm
  have hlen : (conc ρ v).cells.size = i.size := by rw [← Array.length_toList, length_cells, hw]
  have hc1 : ∀ c ∈ (conc ρ v).cells.toList, c.oneCell' = true := solid_cells ρ v hs
  have hst := run_storeCells_at (P := P) (ρ b) o blk.ty (conc ρ v).cells.toList 0 (concC ρ blk.items).toArray w (h.row b blk hm) (by
    simp only [List.size_toArray, length_concC, length_cells]; rw [widthL_items] at s2; omega) hc1
  have e : (concC ρ l).toArray = (((concC ρ blk.items).toArray.toList.take (o + 0) ++ (conc ρ v).cells.toList ++ (concC ρ blk.items).toArray.toList.drop (o + 0 + (conc ρ v).cells.toList.length))).toArray := by
    rw [s1 ρ, concC_items]; simp
  rw [← e] at hst
  refine ⟨?_, h.put hm (s4 hso (by rw [solidL_items]; exact hs)) (fun c hc => ?_)⟩
  · simp only [Instr.storeAt, Instr.sureAddr, Sem.run_bind, Sem.run_pure, Result.andThen_ok, storeVar, run_sizeOf hinf, hsz, hlen, ne_eq, not_true_eq_false, if_false]
    exact hst
  · rcases s3 c hc with hc | hc
    · exact hrf c hc
    · exact hr c (by rwa [refsL_items] at hc)

/-- a new variable -/
theorem new_ok (h : Inv D ρ0 w0 ρ mem w) {n : Nat} (hn : mem n = none) (t : TypeId) {l : List AV} (hl : solidL l = true) (hr : ∀ c ∈ refsL l, mem c ≠ none) {cells : Array Value} (hc : cells = (concC ρ l).toArray) :
    ∃ w' ρ', (newRow t cells).run P w = .ok ⟨ρ' n, 0, none⟩ w' ∧ Inv D ρ0 w0 ρ' (memNew mem n [⟨l, t⟩]) w' ∧ Later ρ mem ρ' (memNew mem n [⟨l, t⟩]) ∧ memNew mem n [⟨l, t⟩] n ≠ none := by
  obtain ⟨ρ', h1, h2, h3⟩ := h.alloc hn t hl hr
  refine ⟨_, ρ', ?_, h1, h2, by simp [memNew]⟩
  simp [newRow, h3, hc]

/-- filling parts in -/
theorem foldl_put (off : Nat) : ∀ (vs : List Value) (j : Nat) (cells : Array Value), off + j + vs.length ≤ cells.size →
    ((vs.zipIdx j).foldl (fun cs (c, i) => cs.setIfInBounds (off + i) c) cells).toList = cells.toList.take (off + j) ++ vs ++ cells.toList.drop (off + j + vs.length)
  | [], j, cells, _ => by simp
  | v :: vs, j, cells, h => by
    simp only [List.zipIdx_cons, List.foldl_cons]
    simp only [List.length_cons] at h
    rw [foldl_put off vs (j + 1) _ (by simp; omega)]
    rw [Array.toList_setIfInBounds]
    have hs := list_seg_step cells.toList (off + j) v vs (by simp; omega)
    rw [show off + (j + 1) = off + j + 1 from by omega, hs]
    simp only [List.length_cons]

theorem fill_ok {placeA : Nat → Option (Nat × Nat)} : ∀ {parts : List (Nat × AV)} {l l' : List AV}, fillA placeA l parts = some l' → solidL l = true → (∀ p ∈ parts, ∀ c ∈ refs p.2, mem c ≠ none) → (∀ c ∈ refsL l, mem c ≠ none) →
    Instr.fill placeA (concC ρ l).toArray (parts.map fun p => (p.1, conc ρ p.2)) = some (concC ρ l').toArray ∧ solidL l' = true ∧ (∀ c ∈ refsL l', mem c ≠ none) ∧ widthL l' = widthL l
  | [], l, l', h, hl, _, hr => by
    simp only [fillA, Option.some.injEq] at h
    subst h
    exact ⟨rfl, hl, hr, rfl⟩
  | (i, v) :: parts, l, l', h, hl, hp, hr => by
    simp only [fillA] at h
    cases hpl : placeA i with
    | none => simp [hpl] at h
    | some on =>
      obtain ⟨o, n⟩ := on
      simp only [hpl] at h
      by_cases hc : (solid v && width v == n) = true
      · rw [if_pos hc] at h
        simp only [Bool.and_eq_true, beq_iff_eq] at hc
        cases hw : writeRow l o (items v) with
        | none => simp [hw] at h
        | some m =>
          simp only [hw] at h
          obtain ⟨s1, s2, s3, s4⟩ := writeRow_spec hw
          have hm : widthL m = widthL l := by
            have := congrArg List.length (s1 id)
            simp only [List.length_append, List.length_take, List.length_drop, length_concC] at this
            omega
          obtain ⟨f1, f2, f3, f4⟩ := fill_ok h (s4 hl (by rw [solidL_items]; exact hc.1)) (fun p hp' => hp p (by simp [hp'])) (fun c hc' => by
            rcases s3 c hc' with hc' | hc'
            · exact hr c hc'
            · exact hp (i, v) (by simp) c (by rwa [refsL_items] at hc'))
          refine ⟨?_, f2, f3, f4.trans hm⟩
          simp only [List.map_cons, Instr.fill, hpl]
          have hsz : (conc ρ v).cells.size = n := by rw [← Array.length_toList, length_cells, hc.2]
          have h2 : o + width v ≤ widthL l := by rw [← widthL_items v]; exact s2
          rw [if_neg (by simp [hsz, length_concC]; omega)]
          rw [← f1]
          congr 1
          apply Array.toList_inj.1
          have hz : (conc ρ v).cells.zipIdx.toList = (conc ρ v).cells.toList.zipIdx 0 := by simp
          rw [← Array.foldl_toList, hz, foldl_put o _ 0 _ (by simp only [Array.length_toList, hsz, List.size_toArray, length_concC]; omega)]
          rw [s1 ρ, concC_items]
          simp
      · rw [if_neg hc] at h; simp at h

end
end Go.X
