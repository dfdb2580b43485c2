/- From a summary to a row; a long body, walked piece by piece. -/
import Derived.Test.YtgejbdalmjopiaaGreatGB
import Derived.ProofKit
import Derived.OpenShut
import Derived.Test.YtgejbdalmjopiaaGreatChecked
import Derived.KernelRfl
import Derived.JoinedOf

section
namespace Go.X
open Go.ChangeShapes Go.WideShapes
def flatT (P : Program) : Nat → TypeId → Bool
  | 0, _ => false
  | d + 1, t => match P.underlying t with
    | some .bool | some (.int _) => true
    | some (.struct fs) => fs.all fun f => flatT P d f.type
    | some (.array _ e) => flatT P d e
    | _ => false
theorem mapM_same {α β : Type} {f g : α → Option β} : ∀ {l : List α}, (∀ a ∈ l, f a = g a) → l.mapM f = l.mapM g
  | [], _ => rfl
  | a :: l, h => by
    simp only [List.mapM_cons, h a (by simp)]
    rw [mapM_same fun b hb => h b (by simp [hb])]
section
variable {H : Type} {enc : TypeId × Value → H} {P : Program}
theorem trod_flat : ∀ (n d : Nat) (t : TypeId) (cs : List Value), flatT P d t = true → ∀ (W W' : World) (base base' : Nat) (sp sp' : Nat → Bool) (hd hd' : Bool), DataW.trod enc P W base sp hd n t cs = DataW.trod enc P W' base' sp' hd' n t cs
  | 0, _, _, _, _ => fun _ _ _ _ _ _ _ _ => rfl
  | n + 1, 0, _, _, h => by simp [flatT] at h
  | n + 1, d + 1, t, cs, h => by
    intro W W' base base' sp sp' hd hd'
    unfold flatT at h
    unfold DataW.trod
    split at h
    · rename_i hu; rw [hu]
      rcases cs with _ | ⟨c, _ | ⟨c', cs⟩⟩ <;> (try cases c) <;> rfl
    · rename_i k hu; rw [hu]
      rcases cs with _ | ⟨c, _ | ⟨c', cs⟩⟩ <;> (try cases c) <;> rfl
    · rename_i fs hu; rw [hu]
      have e : (fs.toList.mapM fun f => DataW.trod enc P W base sp hd n f.type ((cs.drop f.offset).take (P.cellsOf f.type))) = fs.toList.mapM fun f => DataW.trod enc P W' base' sp' hd' n f.type ((cs.drop f.offset).take (P.cellsOf f.type)) :=
        mapM_same fun f hf => trod_flat n d _ _ (by
          rw [Array.all_eq_true_iff_forall_mem] at h
          exact h f (by simpa using hf)) _ _ _ _ _ _ _ _
      dsimp only
      rw [e]
    · rename_i m e hu; rw [hu]
      have e : ((List.range m).mapM fun i => DataW.trod enc P W base sp hd n e ((cs.drop (i * P.cellsOf e)).take (P.cellsOf e))) = (List.range m).mapM fun i => DataW.trod enc P W' base' sp' hd' n e ((cs.drop (i * P.cellsOf e)).take (P.cellsOf e)) :=
        mapM_same fun i _ => trod_flat n d _ _ h _ _ _ _ _ _ _ _
      dsimp only
      rw [e]
    · simp at h
theorem places_flat : ∀ (n d : Nat) (t : TypeId) (cs : List Value) {W : World} {base : Nat} {sp : Nat → Bool} {hd : Bool} {x : DataW H × List MemPlace}, flatT P d t = true → DataW.trod enc P W base sp hd n t cs = some x → x.2 = []
  | 0, _, _, _ => by intro _ h; simp [DataW.trod] at h
  | n + 1, 0, _, _ => by intro h; simp [flatT] at h
  | n + 1, d + 1, t, cs => by
    intro h hx
    unfold flatT at h
    split at h
    · rename_i hu
      unfold DataW.trod at hx
      rw [hu] at hx
      rcases cs with _ | ⟨c, _ | ⟨c', cs⟩⟩ <;> (try cases c) <;> simp at hx
      rw [← hx]
    · rename_i k hu
      unfold DataW.trod at hx
      rw [hu] at hx
      rcases cs with _ | ⟨c, _ | ⟨c', cs⟩⟩ <;> (try cases c) <;> simp at hx
      rw [← hx.2]
    · rename_i fs hu
      obtain ⟨xs, m, e, rfl, -, hlen, hf⟩ := DataW.trod_struct hu hx
      have : m = n := by omega
      subst this
      rw [Array.all_eq_true_iff_forall_mem] at h
      simp only [List.flatMap_eq_nil_iff]
      intro y hy
      obtain ⟨i, hi, rfl⟩ := List.getElem_of_mem hy
      have h1 : fs[i]? = some fs[i] := Array.getElem?_eq_getElem (by omega)
      have := hf i _ h1
      rw [List.getElem?_eq_getElem hi] at this
      exact places_flat m d _ _ (h _ (Array.mem_of_getElem? h1)) this
    · rename_i k e hu
      obtain ⟨xs, m, e', rfl, -, hlen, hf⟩ := DataW.trod_array hu hx
      have : m = n := by omega
      subst this
      simp only [List.flatMap_eq_nil_iff]
      intro y hy
      obtain ⟨i, hi, rfl⟩ := List.getElem_of_mem hy
      have := hf i (by omega)
      rw [List.getElem?_eq_getElem hi] at this
      exact places_flat m d _ _ h this
    · simp at h
theorem trodAll_flat {W : World} {base : Nat} {sp : Nat → Bool} {hd : Bool} : ∀ {ts : List TypeId} {vs : List Value} {ds : List (DataW H)} {ps : List MemPlace}, (∀ t ∈ ts, flatT P 20 t = true) → DataW.TrodAll enc P W base sp hd ts vs ds ps → ps = [] ∧ ∀ (W' : World) (base' : Nat) (sp' : Nat → Bool) (hd' : Bool), DataW.TrodAll enc P W' base' sp' hd' ts vs ds []
  | [], vs, ds, ps, _, h => by
    obtain ⟨rfl, rfl, rfl⟩ := trodAll_nil h
    exact ⟨rfl, fun _ _ _ _ => rfl⟩
  | t :: ts, vs, ds, ps, hf, h => by
    obtain ⟨v, vs', d, ds', p, q, rfl, rfl, rfl, h1, h2⟩ := trodAll_cons h
    obtain ⟨n, hn⟩ := h1
    have ht := hf t (by simp)
    have hp : p = [] := places_flat n 20 t _ ht hn
    obtain ⟨hq, h3⟩ := trodAll_flat (fun u hu => hf u (by simp [hu])) h2
    subst hp hq
    exact ⟨rfl, fun W' base' sp' hd' => ⟨[], [], ⟨n, by rw [← hn]; exact trod_flat n 20 t _ ht _ _ _ _ _ _ _ _⟩, h3 W' base' sp' hd', rfl⟩⟩
structure Kept (W W' : World) : Prop where
  os : W'.os = W.os
  output : W'.output = W.output
  size : W.heap.size ≤ W'.heap.size
  old : ∀ i, i < W.heap.size → W'.heap[i]? = W.heap[i]?
theorem Kept.keptBut {W W' : World} (h : Kept W W') (may : MemPlace → Prop) : W.keptBut W' may := by
  refine ⟨h.os, h.output, fun i hi => ?_⟩
  rw [h.old i hi]
  split
  · rename_i e1 e2
    rw [e1] at e2
    cases e2
    exact ⟨rfl, rfl, rfl, fun _ _ => rfl⟩
  · rename_i e1 e2
    rw [e1] at e2
    cases e2
    exact .inr ⟨rfl, rfl⟩
  · rfl
theorem post_flat {f : Func} {s : ChangeSpec} {apart fresh handsOn again : Bool} {W W' : World} {args : Array Value} {ds gs : List (DataW H)} {before : List MemPlace} {tb : TypeId}
    (hvars : s.vars = []) (hflat : f.params.toList.all (flatT P 20) = true) (hres : f.resultTypes = #[tb]) (hb : P.underlying tb = some .bool)
    (hW : DataW.Whole enc P f.params.toList s.vars apart W args.toList ds gs before)
    (hfn : s.fn H ds = { results := [.lit (.bool true)], args := ds }) (hk : Kept W W') :
    s.post enc P f apart fresh handsOn again W args (.bool true) W' := by
  obtain ⟨p, q, hA, hV, rfl, hz, hn⟩ := hW
  obtain ⟨rfl, hA'⟩ := trodAll_flat (List.all_eq_true.1 hflat) hA
  have hgs : gs = [] ∧ q = [] := by
    rw [hvars] at hV
    cases gs with
    | nil => exact ⟨rfl, hV⟩
    | cons g gs => simp [DataW.TrodVars] at hV
  obtain ⟨rfl, rfl⟩ := hgs
  have hV' : ∀ (W : World) (sp : Nat → Bool), DataW.TrodVars enc P W sp s.vars [] [] := fun W sp => by rw [hvars]; rfl
  have hR : ∀ (b : Nat) (sp : Nat → Bool) (hd : Bool), DataW.TrodAll enc P W' b sp hd f.resultTypes.toList ((Value.bool true).resultList f.resultTypes.size) [.lit (.bool true)] [] := by
    intro b sp hd
    rw [hres]
    exact trodAll_mk1 ⟨1, by simp [DataW.trod, Value.cells, hb]⟩
  refine ⟨ds, [], [] ++ [], [], [], [], ⟨[], [], hA, hV, rfl, hz, hn⟩, ?_, ?_, ?_, hk.keptBut _, fun _ => ⟨?_, ?_⟩⟩
  · rw [List.append_nil, hfn]; exact hR _ _ _
  · rw [List.append_nil, hfn]; exact hA' _ _ _ _
  · rw [List.append_nil, hfn]; exact hV' _ _
  · rw [hres]
    intro j t r h1 h2
    cases j with
    | zero =>
      simp at h1 h2
      subst h1
      simp [Value.resultList] at h2
      subst h2
      simp [Value.okWide, hb, Cell.okWide, Cell.ok]
    | succ j => simp at h1
  · refine ⟨_, [], [], ⟨[], [], trodAll_append (hA' _ _ _ _) (hR _ _ _), hV' _ _, rfl, ?_, fun _ => List.nodup_nil⟩, ?_⟩
    · intro b off hp; simp at hp
    · intro p hp; simp at hp
end
section
variable {P : Program}
theorem law_calls {f : FuncId} {fn : Func} (hf : P.funcs[f]? = some fn) (hn : (fn.name == "runtime.NumGoroutine") = false) (hb : fn.body.isSome = true) {g : List AV → PR} (hs : SumOk P f (pureS g)) {avs : List AV} {v : AV} (hg : g avs = .val v)
    (hr : refsL avs = []) (hso : solidL avs = true) (W : World) : Calls P f (avs.map (conc id)).toArray W fun e W' => e = .returned (conc id v) ∧ Kept W W' := by
  have e0 : pureS g avs (fun _ => none) 0 = .val v [] [] := by rw [pureS_app, hg]; rfl
  have h := hs avs (fun _ => False) id W id (fun _ => none) (fun _ => none) 0 W (fun _ _ h => h) (by rw [e0]; simp) hso (by rw [hr]; simp) (fun _ _ => rfl) (by
    have := Inv.start (w := W) (ρ := id) (mem := fun _ => none) (by simp) (by simp) (by simp)
    simpa using this)
  rw [e0] at h
  rcases h with ⟨x, w', h1, -⟩ | ⟨-, h2⟩
  · rw [callFunc_enter hf hn hb] at h1; simp at h1
  · refine h2.mono fun e W' hq => ?_
    obtain ⟨ρ', x, rfl, h3, h4, h5, -⟩ := hq
    obtain ⟨h6, h7, h8⟩ := h3.get h4
    refine ⟨?_, h5.os, h5.output, h5.size, fun i hi => h5.old i hi fun b hb => hb.elim⟩
    rw [h6]
    congr 1
    apply conc_noref
    cases hrv : refs v with
    | nil => rfl
    | cons c l =>
      have := h8 c (by rw [hrv]; simp)
      rw [memNew_nil, memUp_nil] at this
      simp at this
theorem open_cells {t u : TypeId} {n : Nat} {k : IntKind} {W : World} {base : Nat} {v : Value} (hu : (match P.underlying t with | some (.struct _) | some (.array _ _) => true | _ => false) = true) (hc : P.cellTypes P.depth t = some (List.replicate n u)) (hn : P.cellsOf t = n) (_ : 0 < n)
    (hi : P.underlying u = some (.int k)) (h : Value.okWide P W .any base t v) : ∃ f : Nat → Int, v = .agg (arrCells k n f).toArray ∧ ∀ i, i < n → k.has (f i) := by
  have h' : ∃ cs, v = .agg cs ∧ cs.size = P.cellsOf t ∧ Row.okWide P W .any base t cs := by
    unfold Value.okWide at h
    split at hu <;> rename_i e <;> first
      | (rw [e] at h; exact h)
      | simp at hu
  obtain ⟨cs, rfl, hsz, ts, h1, h2, h3⟩ := h'
  rw [hc] at h1
  cases h1
  have cell : ∀ i, i < n → ∃ x : Int, cs[i]? = some (.int k x) ∧ k.has x := by
    intro i hi'
    have hlt : i < cs.size := by omega
    obtain ⟨w, hw1, hw2⟩ := h3 i cs[i] (Array.getElem?_eq_getElem hlt)
    rw [List.getElem?_replicate] at hw1
    split at hw1
    · cases hw1
      unfold Cell.okWide at hw2
      rw [hi] at hw2
      simp only [Cell.ok, hi] at hw2
      rw [Array.getElem?_eq_getElem hlt]
      cases hcs : cs[i] with
      | int k' m =>
        rw [hcs] at hw2
        obtain ⟨rfl, h5⟩ := hw2
        exact ⟨m, rfl, h5⟩
      | _ => rw [hcs] at hw2; exact hw2.elim
    · simp at hw1
  refine ⟨fun i => match cs[i]? with | some (.int _ x) => x | _ => 0, ?_, fun i hi' => ?_⟩
  · congr 1
    apply Array.ext_getElem?
    intro i
    by_cases hi' : i < n
    · obtain ⟨x, hx, -⟩ := cell i hi'
      simp [hx, arrCells, hi']
    · rw [Array.getElem?_eq_none (by omega), Array.getElem?_eq_none (by simp [arrCells]; omega)]
  · obtain ⟨x, hx, hh⟩ := cell i hi'
    simp [hx, hh]
theorem open_num {t : TypeId} {k : IntKind} {W : World} {base : Nat} {v : Value} (hi : P.underlying t = some (.int k)) (h : Value.okWide P W .any base t v) : ∃ n : Int, v = .int k n ∧ k.has n := by
  unfold Value.okWide at h
  rw [hi] at h
  simp only [Cell.okWide, hi, Cell.ok] at h
  cases v with
  | int k' m => obtain ⟨rfl, h⟩ := h; exact ⟨m, rfl, h⟩
  | _ => exact h.elim
end
end Go.X
end

section
namespace Go.X
def headC : Nat → Code → Code → Code
  | 0, _, t => t
  | n + 1, .seq a b, t => .seq a (headC n b t)
  | _ + 1, c, _ => c
def tailC : Nat → Code → Code
  | 0, c => c
  | n + 1, .seq _ b => tailC n b
  | _ + 1, c => c
theorem cutC : ∀ (n : Nat) (c : Code), c = headC n c (tailC n c)
  | 0, _ => rfl
  | n + 1, c => by
    cases c with
    | seq a b => simp only [headC, tailC]; rw [← cutC n b]
    | _ => rfl
@[simp] theorem headC_zero {c t : Code} : headC 0 c t = t := by unfold headC; rfl
@[simp] theorem headC_seq {n : Nat} {a b t : Code} : headC (n + 1) (.seq a b) t = .seq a (headC n b t) := rfl
@[simp] theorem tailC_zero {c : Code} : tailC 0 c = c := by unfold tailC; rfl
@[simp] theorem tailC_seq {n : Nat} {a b : Code} : tailC (n + 1) (.seq a b) = tailC n b := rfl
theorem good_cut {T : TT} {S : ST} {L : Nat → Option DM} {k : Nat} (n : Nat) {c tl : Code} (ht : tailC n c = tl) {s : St} {Q : Ex → St → Prop} (h : Good (exec T S L k (headC n c tl) s) Q) : Good (exec T S L k c s) Q := by
  rw [cutC n c, ht]; exact h
end Go.X
end

section
namespace Go.Proofs
open Go
theorem wordsSigns_sign {c : Char} {r : List Char} (h : c ≠ Char.ofNat 32) : wordsSigns (c :: r) = match wordsSigns r with
    | w :: ws => (c :: w) :: ws
    | [] => [[c]] := by
  rw [wordsSigns]
  all_goals first | rfl | exact h
theorem wordsSigns_word : ∀ (w r : List Char), (∀ c ∈ w, c ≠ Char.ofNat 32) → wordsSigns (w ++ Char.ofNat 32 :: r) = w :: wordsSigns r
  | [], r, _ => by rfl
  | c :: w, r, h => by
    rw [List.cons_append, wordsSigns_sign (h c (by simp)), wordsSigns_word w r fun d hd => h d (by simp [hd])]
theorem nosign {l : List Nat} (h : (l.all fun n => Char.ofNat n != Char.ofNat 32) = true) : ∀ c ∈ l.map Char.ofNat, c ≠ Char.ofNat 32 := by
  intro c hc e
  obtain ⟨n, hn, rfl⟩ := List.mem_map.1 hc
  have h1 := List.all_eq_true.1 h n hn
  rw [e] at h1
  simp at h1
def cutSigns : List Char := ([99, 117, 116] : List Nat).map Char.ofNat
def mainSigns : List Char := ([104, 97, 114, 110, 101, 115, 115] : List Nat).map Char.ofNat
theorem cut_signs : cutSigns = "cut".toList := by decide +kernel
theorem main_signs : mainSigns = "harness".toList := by decide +kernel
theorem nosign_cut : ∀ c ∈ cutSigns, c ≠ Char.ofNat 32 := nosign (by decide +kernel)
theorem nosign_main : ∀ c ∈ mainSigns, c ≠ Char.ofNat 32 := nosign (by decide +kernel)
theorem behind_of {P : Program} {sum rest : List Char} (h : P.initOrder = String.ofList (mainSigns ++ Char.ofNat 32 :: (sum ++ Char.ofNat 32 :: (cutSigns ++ Char.ofNat 32 :: rest)))) (h1 : ∀ c ∈ sum, c ≠ Char.ofNat 32) (h2 : isSumSigns sum = true) :
    behindMainWord (wordsSigns P.initOrder.toList) = "cut".toList :: wordsSigns rest := by
  rw [h, String.toList_ofList, wordsSigns_word _ _ nosign_main, wordsSigns_word _ _ h1, wordsSigns_word _ _ nosign_cut, ← cut_signs]
  simp only [behindMainWord, main_signs, h2, beq_self_eq_true, Bool.true_or, Bool.and_self, if_true]
theorem strip_cut {rest : List (List Char)} : stripLifts liftWords ("cut".toList :: rest) = ([], "cut".toList :: rest) := by
  have e : ∀ l : List String, (l.all fun o => "cut".toList != o.toList) = true → stripLifts l ("cut".toList :: rest) = ([], "cut".toList :: rest) := by
    intro l
    induction l with
    | nil => intro _; rfl
    | cons o l ih =>
      intro h
      rw [List.all_cons, Bool.and_eq_true, bne_iff_ne] at h
      unfold stripLifts
      rw [if_neg (by simpa using h.1)]
      exact ih h.2
  exact e _ (by decide +kernel)
theorem mayEnter_of {P : Program} {rest : List (List Char)} (h : behindMainWord (wordsSigns P.initOrder.toList) = "cut".toList :: rest) (h1 : P.laysLater = false) (h2 : P.bearsReflect = false) (h3 : P.doorFits [] = true) : P.mayEnter = true := by
  unfold Program.mayEnter
  rw [h]
  simp only [strip_cut, h1, h2, h3]
  have e1 : ("cut".toList == "gc".toList || "cut".toList == "spec".toList) = false := by decide +kernel
  have e2 : ("cut".toList == "carried".toList) = false := by decide +kernel
  rw [e1, e2]
  simp
theorem liftsFinal_of {P : Program} {rest : List (List Char)} (h : behindMainWord (wordsSigns P.initOrder.toList) = "cut".toList :: rest) : P.liftsFinal = false := by
  unfold Program.liftsFinal Program.headLifts
  rw [h]
  have e1 : ((("cut".toList :: rest).head? == some "carried".toList) = false) := by
    rw [List.head?_cons]
    have : ("cut".toList == "carried".toList) = false := by decide +kernel
    simp
  simp only [strip_cut, e1]
  simp
theorem make_of {P : Program} {rest : List (List Char)} (h : behindMainWord (wordsSigns P.initOrder.toList) = "cut".toList :: rest) : P.make = some .cut := by
  unfold Program.make
  rw [h]
  have e1 : ("cut".toList == "gc".toList || "cut".toList == "spec".toList) = false := by decide +kernel
  simp only [e1]
  simp
theorem Tryz.init_eq : Tryz.prog.initOrder = String.ofList (mainSigns ++ Char.ofNat 32 :: (([100, 56, 100, 100, 97, 56, 55, 52, 98, 100, 99, 48, 50, 50, 55, 51, 101, 49, 54, 56, 98, 52, 54, 102, 55, 48, 102, 97, 57, 48, 49, 98, 52, 50, 52, 49, 56, 56, 50, 50, 51, 98, 100, 101, 49, 52, 53, 48, 101, 52, 50, 98, 52, 98, 49, 102, 49, 50, 49, 98, 51, 56, 52, 54] : List Nat).map Char.ofNat ++ Char.ofNat 32 :: (cutSigns ++ Char.ofNat 32 :: ([97, 116, 32, 110, 105, 110, 101, 112, 105, 110, 47, 110, 105, 110, 101, 112, 105, 110, 108, 97, 119, 50, 52, 46, 77, 111, 118, 101, 73, 110, 101, 114, 116, 32, 110, 105, 110, 101, 112, 105, 110, 47, 110, 105, 110, 101, 112, 105, 110, 108, 97, 119, 50, 52, 46, 77, 111, 118, 101, 84, 119, 105, 99, 101, 32, 110, 105, 110, 101, 112, 105, 110, 47, 110, 105, 110, 101, 112, 105, 110, 108, 97, 119, 50, 52, 46, 77, 111, 118, 101, 70, 97, 108, 108, 32, 110, 105, 110, 101, 112, 105, 110, 47, 110, 105, 110, 101, 112, 105, 110, 108, 97, 119, 50, 52, 46, 77, 111, 118, 101, 83, 116, 97, 121, 115, 32, 110, 105, 110, 101, 112, 105, 110, 47, 110, 105, 110, 101, 112, 105, 110, 108, 97, 119, 50, 52, 46, 77, 111, 118, 101, 87, 105, 116, 104] : List Nat).map Char.ofNat))) := by kernel_rfl
theorem Tryz.fact25 : Tryz.prog.mayEnter = true := mayEnter_of (behind_of Tryz.init_eq (nosign (by decide +kernel)) (by decide +kernel)) (by kernel_rfl) (by kernel_rfl) (by kernel_rfl)
theorem Tryz.fact26 : Tryz.prog.liftsFinal = false := liftsFinal_of (behind_of Tryz.init_eq (nosign (by decide +kernel)) (by decide +kernel))
theorem Tryz.fact27 : Tryz.prog.make = some .cut := make_of (behind_of Tryz.init_eq (nosign (by decide +kernel)) (by decide +kernel))
end Go.Proofs
end
