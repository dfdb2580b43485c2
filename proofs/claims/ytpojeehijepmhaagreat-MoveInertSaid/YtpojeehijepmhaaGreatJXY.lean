/- From a summary to a row where lists of vectors come in: such a list lies in a block that was there. Plain: no program in sight. -/
import Derived.Test.YtpojeehijepmhaaGreatGR
import Derived.Test.YtpojeehijepmhaaGreatGN
import Derived.ChangeStays
namespace Go.X
open Go.ChangeShapes Go.WideShapes
def winF (cs : Array Value) (o : Nat) : Int := match cs[o]? with
  | some (.int .i64 n) => n
  | _ => 0
def winS (cs : Array Value) (o : Nat) : Bool := match cs[o]? with
  | some (.int .i64 _) => true
  | _ => false
def memW (W : World) : Mem := fun b => match W.heap[b]? with
  | some (.cells cs t fr) => some ⟨[.win cs t fr .i64 (winF cs) (winS cs)], t⟩
  | _ => none
theorem winS_get {cs : Array Value} {o : Nat} (h : winS cs o = true) : cs[o]? = some (.int .i64 (winF cs o)) := by
  unfold winS at h
  unfold winF
  split at h
  · rename_i n e; rw [e]
  · simp at h
theorem winS_of {cs : Array Value} {o : Nat} {n : Int} (h : cs[o]? = some (.int .i64 n)) : winS cs o = true ∧ winF cs o = n := by
  unfold winS winF
  rw [h]
  exact ⟨rfl, rfl⟩
theorem memW_some {W : World} {b : Nat} {blk : Blk} (h : memW W b = some blk) : ∃ cs t fr, W.heap[b]? = some (.cells cs t fr) ∧ blk = ⟨[.win cs t fr .i64 (winF cs) (winS cs)], t⟩ := by
  unfold memW at h
  split at h
  · rename_i cs t fr e
    exact ⟨cs, t, fr, e, (Option.some.inj h).symm⟩
  · simp at h
theorem inv_memW (W : World) : Inv (fun b => memW W b ≠ none) id W id (memW W) W := by
  refine Inv.start ?_ (fun b c _ _ h => h) ?_
  · intro b blk hb
    obtain ⟨cs, t, fr, e, rfl⟩ := memW_some hb
    exact e
  · intro b blk hb
    obtain ⟨cs, t, fr, e, rfl⟩ := memW_some hb
    exact ⟨by simp [refsL, refs], fun j hj => winS_get hj⟩
section
variable {P : Program}
theorem law_callsW {f : FuncId} {fn : Func} (hf : P.funcs[f]? = some fn) (hn : (fn.name == "runtime.NumGoroutine") = false) (hb : fn.body.isSome = true) {g : Sum} (hs : SumOk P f g) {avs : List AV} {v : AV} {W : World}
    (hg : g avs (memW W) W.heap.size = .val v [] []) (hrv : refs v = []) (hr : ∀ c ∈ refsL avs, memW W c ≠ none) (hso : solidL avs = true) : Calls P f (avs.map (conc id)).toArray W fun e W' => e = .returned (conc id v) ∧ Kept W W' := by
  have h := hs avs (fun b => memW W b ≠ none) id W id (memW W) (memW W) W.heap.size W (fun _ _ h => h) (by rw [hg]; simp) hso hr (fun j hj => by
    rw [hg] at hj
    simp [CR.news] at hj) (inv_memW W)
  rw [hg] at h
  rcases h with ⟨x, w', h1, -⟩ | ⟨-, h2⟩
  · rw [callFunc_enter hf hn hb] at h1; simp at h1
  · refine h2.mono fun e W' hq => ?_
    obtain ⟨ρ', x, rfl, h3, h4, h5, -⟩ := hq
    obtain ⟨h6, -, -⟩ := h3.get h4
    refine ⟨?_, h5.os, h5.output, h5.size, fun i hi => ?_⟩
    · rw [h6]
      congr 1
      exact conc_noref hrv _ _
    · by_cases hm : memW W i = none
      · exact h5.old i hi fun b hb e => hb (by have : b = i := e; rw [this]; exact hm)
      · obtain ⟨blk, hblk⟩ := Option.ne_none_iff_exists'.1 hm
        obtain ⟨cs, t, fr, e, rfl⟩ := memW_some hblk
        have h8 := h5.row i _ (by rw [memNew_nil, memUp_nil]; exact hblk)
        have h9 : ρ' i = i := (h5.ent i hm).1
        rw [h9] at h8
        rw [h8, e]
        rfl
def IsSl (l : AV) (n : Nat) : Prop := (l = .nilslice ∧ n = 0) ∨ ∃ b o c, l = .slice b o n c ∧ n ≤ c
theorem IsSl.solid {l : AV} {n : Nat} (h : IsSl l n) : solid l = true ∧ (∀ ρ, (conc ρ l).cells.toList = [conc ρ l]) := by
  rcases h with ⟨rfl, -⟩ | ⟨b, o, c, rfl, -⟩ <;> exact ⟨rfl, fun _ => rfl⟩
theorem open_list {t uL e : TypeId} {n k : Nat} {ts : List TypeId} {W : World} {base : Nat} {v : Value} (hu : (match P.underlying t with | some (.struct _) => true | _ => false) = true) (hc : P.cellTypes P.depth t = some ts) (hn : P.cellsOf t = n) (hl : ts.length = n) (hk : k < n)
    (hi : ∀ i, i < n → i ≠ k → (match ts[i]? with | some u => P.underlying u = some (.int .i64) | none => False)) (hLk : ts[k]? = some uL) (hL : P.underlying uL = some (.slice e)) (h : Value.okWide P W .any base t v) :
    ∃ (f : Nat → Int) (l : AV) (m : Nat), v = .agg ((List.range n).map fun i => if i = k then conc id l else .int .i64 (f i)).toArray ∧ (∀ i, i < n → i ≠ k → IntKind.i64.has (f i)) ∧ IsSl l m ∧ ∀ c ∈ refs l, memW W c ≠ none := by
  have h' : ∃ cs, v = .agg cs ∧ cs.size = P.cellsOf t ∧ Row.okWide P W .any base t cs := by
    unfold Value.okWide at h
    split at hu
    · rename_i e; rw [e] at h; exact h
    · simp at hu
  obtain ⟨cs, rfl, hsz, ts', h1, h2, h3⟩ := h'
  rw [hc] at h1
  cases h1
  have cell : ∀ i, i < n → i ≠ k → ∃ x : Int, cs[i]? = some (.int .i64 x) ∧ IntKind.i64.has x := by
    intro i hin hik
    have hlt : i < cs.size := by omega
    obtain ⟨w, hw1, hw2⟩ := h3 i cs[i] (Array.getElem?_eq_getElem hlt)
    rw [Nat.mod_eq_of_lt (by omega)] at hw1
    have hi' := hi i hin hik
    rw [hw1] at hi'
    unfold Cell.okWide at hw2
    rw [hi'] at hw2
    simp only [Cell.ok, hi'] at hw2
    rw [Array.getElem?_eq_getElem hlt]
    cases hcs : cs[i] with
    | int k' m =>
      rw [hcs] at hw2
      obtain ⟨rfl, h5⟩ := hw2
      exact ⟨m, rfl, h5⟩
    | _ => rw [hcs] at hw2; exact hw2.elim
  have list : ∃ (l : AV) (m : Nat), cs[k]? = some (conc id l) ∧ IsSl l m ∧ ∀ c ∈ refs l, memW W c ≠ none := by
    have hlt : k < cs.size := by omega
    obtain ⟨w, hw1, hw2⟩ := h3 k cs[k] (Array.getElem?_eq_getElem hlt)
    rw [Nat.mod_eq_of_lt (by omega), hLk] at hw1
    cases hw1
    rw [Array.getElem?_eq_getElem hlt]
    unfold Cell.okWide at hw2
    rw [hL] at hw2
    simp only [Cell.ok, hL] at hw2
    cases hcs : cs[k] with
    | slice a len cap =>
      rw [hcs] at hw2
      cases a with
      | none =>
        cases len with
        | zero =>
          cases cap with
          | zero => exact ⟨.nilslice, 0, rfl, .inl ⟨rfl, rfl⟩, by simp [refs]⟩
          | succ c => exact hw2.elim
        | succ m => exact hw2.elim
      | some a =>
        obtain ⟨b, o, s⟩ := a
        obtain ⟨g1, -, -, g3, row, cells, g4, -⟩ := hw2
        simp only at g3 g4
        subst g3
        refine ⟨.slice b o len cap, len, rfl, .inr ⟨b, o, cap, rfl, g1⟩, ?_⟩
        intro c hc
        simp only [refs, List.mem_singleton] at hc
        subst hc
        unfold World.shape? at g4
        unfold memW
        split at g4
        · rename_i e; rw [e]; simp
        · simp at g4
    | _ => rw [hcs] at hw2; exact hw2.elim
  obtain ⟨l, m, hl1, hl2, hl3⟩ := list
  refine ⟨fun i => match cs[i]? with | some (.int _ x) => x | _ => 0, l, m, ?_, fun i hin hik => ?_, hl2, hl3⟩
  · congr 1
    apply Array.ext_getElem?
    intro i
    by_cases hin : i < n
    · by_cases hik : i = k
      · subst hik
        simp [hl1, hin]
      · obtain ⟨x, hx, -⟩ := cell i hin hik
        simp [hx, hin, hik]
    · rw [Array.getElem?_eq_none (by omega), Array.getElem?_eq_none (by simp; omega)]
  · obtain ⟨x, hx, hh⟩ := cell i hin hik
    simp [hx, hh]
variable {H : Type} {enc : TypeId × Value → H}
theorem cells_get {W : World} {a : Addr} {n : Nat} {l : List Value} (h : W.cells? 0 a n = some l) {i : Nat} (hi : i < n) : W.cell? (a.add i) = l[i]? ∧ l.length = n := by
  unfold World.cells? at h
  rw [if_pos (by omega)] at h
  have h1 := mapM_some_get h i i (by simp [hi])
  have h2 := mapM_some_length h
  exact ⟨h1, by simpa using h2⟩
theorem trod_list {tL tV : TypeId} {fs : Array Field} {W : World} {n m : Nat} {l : AV} {x : DataW H × List MemPlace} (hL : P.underlying tL = some (.slice tV)) (hV : P.underlying tV = some (.struct fs)) (h3 : P.cellsOf tV = 3)
    (hfs : ∀ i, i < 3 → (match fs[i]? with | some f => P.underlying f.type = some (.int .i64) ∧ f.offset = i ∧ P.cellsOf f.type = 1 | none => False)) (hl : IsSl l m) (hm : ∀ c ∈ refs l, memW W c ≠ none)
    (h : DataW.trod enc P W 0 (fun _ => true) true n tL [conc id l] = some x) : ∃ F, listE (memW W) l = some (m, F) ∧ ∀ j, j < m * 3 → IntKind.i64.has (F j) := by
  rcases hl with ⟨rfl, rfl⟩ | ⟨b, o, c, rfl, hc⟩
  · exact ⟨fun _ => 0, rfl, by omega⟩
  · rcases DataW.trod_slice hL h with ⟨h1, -⟩ | ⟨a, len, cap, elems, rest, n', -, h1, -, -, -, -, hlen, hel, -, -⟩
    · simp [conc] at h1
    · simp only [conc, id, List.cons.injEq, Value.slice.injEq, Option.some.injEq, and_true] at h1
      obtain ⟨rfl, rfl, rfl⟩ := h1
      obtain ⟨blk, hblk⟩ := Option.ne_none_iff_exists'.1 (hm b (by simp [refs]))
      obtain ⟨cs, t, fr, hh, rfl⟩ := memW_some hblk
      have key : ∀ j, j < m * 3 → ∃ z : Int, cs[o + j]? = some (.int .i64 z) ∧ IntKind.i64.has z := by
        intro j hj
        have hi : j / 3 < m := by omega
        have hel' := hel (j / 3) hi
        rw [List.getElem?_eq_getElem (by omega)] at hel'
        cases hcl : W.cells? 0 (Addr.add ⟨b, o, none⟩ (j / 3 * P.cellsOf tV)) (P.cellsOf tV) with
        | none => rw [hcl] at hel'; simp at hel'
        | some l3 =>
          rw [hcl] at hel'
          simp only [Option.bind_some] at hel'
          rw [h3] at hcl
          obtain ⟨xs, n2, -, -, hl3, hlx, hff⟩ := DataW.trod_struct hV hel'
          have hj3 : j % 3 < 3 := by omega
          obtain ⟨g1, g2⟩ := cells_get hcl hj3
          have hf := hfs (j % 3) hj3
          split at hf
          · rename_i fd hfd
            obtain ⟨k1, k2, k3⟩ := hf
            have hq := hff _ _ hfd
            rw [k2, k3] at hq
            have hlt : j % 3 < l3.length := by omega
            have e1 : (l3.drop (j % 3)).take 1 = [l3[j % 3]] := by
              rw [List.drop_eq_getElem_cons hlt]; rfl
            rw [e1] at hq
            have g3 : cs[o + j]? = some l3[j % 3] := by
              rw [List.getElem?_eq_getElem hlt] at g1
              rw [← g1]
              unfold World.cell?
              have e2 : (Addr.add (Addr.add ⟨b, o, none⟩ (j / 3 * 3)) (j % 3)) = ⟨b, o + j, none⟩ := by
                have : o + j / 3 * 3 + j % 3 = o + j := by omega
                unfold Addr.add
                split <;> split <;> simp_all <;> omega
              rw [e2, hh]
              simp
            cases n2 with
            | zero =>
              have : j % 3 < fs.size := (Array.getElem?_eq_some_iff.1 hfd).1
              rw [List.getElem?_eq_getElem (by omega)] at hq
              simp [DataW.trod] at hq
            | succ n3 =>
              have : j % 3 < fs.size := (Array.getElem?_eq_some_iff.1 hfd).1
              rw [List.getElem?_eq_getElem (by omega)] at hq
              unfold DataW.trod at hq
              rw [k1] at hq
              cases hv : l3[j % 3] with
              | int kk nn =>
                rw [hv] at hq g3
                simp only at hq
                split at hq
                · rename_i hw
                  obtain ⟨rfl, hw⟩ := hw
                  refine ⟨nn, g3, ?_⟩
                  simpa [Lit.wf, IntKind.has] using hw
                · simp at hq
              | _ => rw [hv] at hq; simp at hq
          · exact hf.elim
      have hS : covB (winS cs) o (m * 3) = true := by
        unfold covB
        rw [List.all_eq_true]
        intro j hj
        obtain ⟨z, hz, -⟩ := key j (List.mem_range.1 hj)
        exact (winS_of hz).1
      refine ⟨fun j => winF cs (o + j), ?_, fun j hj => ?_⟩
      · unfold listE
        simp only [hblk, rowB]
        rw [if_pos ⟨by first | rfl | trivial, hS⟩]
        simp [hc]
      · obtain ⟨z, hz, hzz⟩ := key j hj
        simp only [(winS_of hz).2]
        exact hzz
theorem trod_field {t : TypeId} {fs : Array Field} {fd : Field} {W : World} {n i : Nat} {cs : List Value} {x : DataW H × List MemPlace} (hu : P.underlying t = some (.struct fs)) (hf : fs[i]? = some fd)
    (h : DataW.trod enc P W 0 (fun _ => true) true n t cs = some x) : ∃ n' y, DataW.trod enc P W 0 (fun _ => true) true n' fd.type ((cs.drop fd.offset).take (P.cellsOf fd.type)) = some y := by
  obtain ⟨xs, n', -, -, -, hlen, hff⟩ := DataW.trod_struct hu h
  have hi : i < xs.length := by rw [hlen]; exact (Array.getElem?_eq_some_iff.1 hf).1
  exact ⟨n', xs[i], by rw [hff i fd hf, List.getElem?_eq_getElem hi]⟩
theorem trodAll_kept {W W' : World} (K : Kids P (· < P.types.size)) (hsz : ∀ {t e : TypeId}, t < P.types.size → P.underlying t = some (.slice e) → 0 < P.cellsOf e) (hk : Kept W W') :
    ∀ {ts : List TypeId} {vs : List Value} {ds : List (DataW H)} {ps : List MemPlace}, (∀ t ∈ ts, t < P.types.size) → DataW.TrodAll enc P W 0 (fun _ => true) true ts vs ds ps → DataW.TrodAll enc P W' 0 (fun b => decide (b < W.heap.size)) true ts vs ds ps
  | [], vs, ds, ps, _, h => by
    obtain ⟨rfl, rfl, rfl⟩ := trodAll_nil h
    rfl
  | t :: ts, vs, ds, ps, ht, h => by
    obtain ⟨v, vs', d, ds', p, q, rfl, rfl, rfl, ⟨n, h1⟩, h2⟩ := trodAll_cons h
    have hlt := DataW.trod_lt _ _ _ _ h1
    refine ⟨p, q, ⟨n, DataW.trod_stays K hsz (by simp) (ht t (by simp)) h1 (fun z hz => ?_) fun z hz => by simpa using hlt z hz⟩, trodAll_kept K hsz hk (fun u hu => ht u (by simp [hu])) h2, rfl⟩
    have hz' := hlt z hz
    cases z with
    | cell b off =>
      unfold World.sameAt World.cell?
      simp only
      rw [hk.old b hz']
    | map b => exact hk.old b hz'
theorem post_list {f : Func} {s : ChangeSpec} {apart fresh handsOn : Bool} {W W' : World} {args : Array Value} {ds gs : List (DataW H)} {before : List MemPlace} {tb : TypeId}
    (hl : laidOutB P = true) (hm : mapsRowed P = true) (hsz : ((List.range P.types.size).all fun t => match P.underlying t with | some (.slice e) => decide (0 < P.cellsOf e) | _ => true) = true) (hts : f.params.toList.all (fun t => decide (t < P.types.size)) = true)
    (hvars : s.vars = []) (hres : f.resultTypes = #[tb]) (hb : P.underlying tb = some .bool)
    (hW : DataW.Whole enc P f.params.toList s.vars apart W args.toList ds gs before)
    (hfn : s.fn H ds = { results := [.lit (.bool true)], args := ds }) (hk : Kept W W') :
    s.post enc P f apart fresh handsOn false W args (.bool true) W' := by
  obtain ⟨p, q, hA, hV, rfl, hz, hn⟩ := hW
  have hgs : gs = [] ∧ q = [] := by
    rw [hvars] at hV
    cases gs with
    | nil => exact ⟨rfl, hV⟩
    | cons g gs => simp [DataW.TrodVars] at hV
  obtain ⟨rfl, rfl⟩ := hgs
  have hV' : ∀ (W : World) (sp : Nat → Bool), DataW.TrodVars enc P W sp s.vars [] [] := fun W sp => by rw [hvars]; rfl
  have hR : ∀ (b : Nat) (sp : Nat → Bool) (hd : Bool), DataW.TrodAll enc P W' b sp hd f.resultTypes.toList ((Value.bool true).resultList f.resultTypes.size) [.lit (.bool true)] [] := by
    intro b sp hd
    rw [hres]
    exact trodAll_mk1 ⟨1, by simp [DataW.trod, Value.cells, hb]⟩
  have hA' := trodAll_kept (kids_rows hl hm) (fun {t e} ht hu => by
    have h1 := List.all_eq_true.1 hsz t (by simpa using ht)
    rw [hu] at h1
    simpa using h1) hk (fun t ht => by simpa using List.all_eq_true.1 hts t ht) hA
  refine ⟨ds, [], p ++ [], [], p, [], ⟨p, [], hA, hV, rfl, hz, hn⟩, ?_, ?_, ?_, hk.keptBut _, by simp⟩
  · rw [List.append_nil, hfn]; exact hR _ _ _
  · rw [List.append_nil, hfn]; exact hA'
  · rw [List.append_nil, hfn]; exact hV' _ _
end
end Go.X
