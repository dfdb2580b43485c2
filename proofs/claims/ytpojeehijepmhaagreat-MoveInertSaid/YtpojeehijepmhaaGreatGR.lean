/- From a summary to a row; a long body, walked piece by piece. -/
import Derived.Test.YtpojeehijepmhaaGreatGB
import Derived.ProofKit
import Derived.OpenShut
import Derived.Test.YtpojeehijepmhaaGreatChecked
import Derived.KernelRfl
import Derived.JoinedOf

section
namespace Go.X
open Go.ChangeShapes Go.WideShapes
section
variable {H : Type} {enc : TypeId × Value → H} {P : Program}
structure Kept (W W' : World) : Prop where
  os : W'.os = W.os
  output : W'.output = W.output
  size : W.heap.size ≤ W'.heap.size
  old : ∀ i, i < W.heap.size → W'.heap[i]? = W.heap[i]?
theorem Kept.keptBut {W W' : World} (h : Kept W W') (may : MemPlace → Prop) : W.keptBut W' may := by
  refine ⟨h.os, h.output, fun i hi => ?_⟩
  rw [h.old i hi]
  split
  · rename_i e1 e2
    rw [e1] at e2
    cases e2
    exact ⟨rfl, rfl, rfl, fun _ _ => rfl⟩
  · rename_i e1 e2
    rw [e1] at e2
    cases e2
    exact .inr ⟨rfl, rfl⟩
  · rfl
end
section
variable {P : Program}
end
end Go.X
end

section
namespace Go.X
def headC : Nat → Code → Code → Code
  | 0, _, t => t
  | n + 1, .seq a b, t => .seq a (headC n b t)
  | _ + 1, c, _ => c
def tailC : Nat → Code → Code
  | 0, c => c
  | n + 1, .seq _ b => tailC n b
  | _ + 1, c => c
theorem cutC : ∀ (n : Nat) (c : Code), c = headC n c (tailC n c)
  | 0, _ => rfl
  | n + 1, c => by
    cases c with
    | seq a b => simp only [headC, tailC]; rw [← cutC n b]
    | _ => rfl
@[simp] theorem headC_zero {c t : Code} : headC 0 c t = t := by unfold headC; rfl
@[simp] theorem headC_seq {n : Nat} {a b t : Code} : headC (n + 1) (.seq a b) t = .seq a (headC n b t) := rfl
@[simp] theorem tailC_zero {c : Code} : tailC 0 c = c := by unfold tailC; rfl
@[simp] theorem tailC_seq {n : Nat} {a b : Code} : tailC (n + 1) (.seq a b) = tailC n b := rfl
theorem good_cut {T : TT} {S : ST} {L : Nat → Option DM} {k : Nat} (n : Nat) {c tl : Code} (ht : tailC n c = tl) {s : St} {Q : Ex → St → Prop} (h : Good (exec T S L k (headC n c tl) s) Q) : Good (exec T S L k c s) Q := by
  rw [cutC n c, ht]; exact h
end Go.X
end

section
namespace Go.Proofs
open Go
theorem wordsSigns_sign {c : Char} {r : List Char} (h : c ≠ Char.ofNat 32) : wordsSigns (c :: r) = match wordsSigns r with
    | w :: ws => (c :: w) :: ws
    | [] => [[c]] := by
  rw [wordsSigns]
  all_goals first | rfl | exact h
theorem wordsSigns_word : ∀ (w r : List Char), (∀ c ∈ w, c ≠ Char.ofNat 32) → wordsSigns (w ++ Char.ofNat 32 :: r) = w :: wordsSigns r
  | [], r, _ => by rfl
  | c :: w, r, h => by
    rw [List.cons_append, wordsSigns_sign (h c (by simp)), wordsSigns_word w r fun d hd => h d (by simp [hd])]
theorem nosign {l : List Nat} (h : (l.all fun n => Char.ofNat n != Char.ofNat 32) = true) : ∀ c ∈ l.map Char.ofNat, c ≠ Char.ofNat 32 := by
  intro c hc e
  obtain ⟨n, hn, rfl⟩ := List.mem_map.1 hc
  have h1 := List.all_eq_true.1 h n hn
  rw [e] at h1
  simp at h1
def cutSigns : List Char := ([99, 117, 116] : List Nat).map Char.ofNat
def mainSigns : List Char := ([104, 97, 114, 110, 101, 115, 115] : List Nat).map Char.ofNat
theorem cut_signs : cutSigns = "cut".toList := by decide +kernel
theorem main_signs : mainSigns = "harness".toList := by decide +kernel
theorem nosign_cut : ∀ c ∈ cutSigns, c ≠ Char.ofNat 32 := nosign (by decide +kernel)
theorem nosign_main : ∀ c ∈ mainSigns, c ≠ Char.ofNat 32 := nosign (by decide +kernel)
theorem behind_of {P : Program} {sum rest : List Char} (h : P.initOrder = String.ofList (mainSigns ++ Char.ofNat 32 :: (sum ++ Char.ofNat 32 :: (cutSigns ++ Char.ofNat 32 :: rest)))) (h1 : ∀ c ∈ sum, c ≠ Char.ofNat 32) (h2 : isSumSigns sum = true) :
    behindMainWord (wordsSigns P.initOrder.toList) = "cut".toList :: wordsSigns rest := by
  rw [h, String.toList_ofList, wordsSigns_word _ _ nosign_main, wordsSigns_word _ _ h1, wordsSigns_word _ _ nosign_cut, ← cut_signs]
  simp only [behindMainWord, main_signs, h2, beq_self_eq_true, Bool.true_or, Bool.and_self, if_true]
theorem strip_cut {rest : List (List Char)} : stripLifts liftWords ("cut".toList :: rest) = ([], "cut".toList :: rest) := by
  have e : ∀ l : List String, (l.all fun o => "cut".toList != o.toList) = true → stripLifts l ("cut".toList :: rest) = ([], "cut".toList :: rest) := by
    intro l
    induction l with
    | nil => intro _; rfl
    | cons o l ih =>
      intro h
      rw [List.all_cons, Bool.and_eq_true, bne_iff_ne] at h
      unfold stripLifts
      rw [if_neg (by simpa using h.1)]
      exact ih h.2
  exact e _ (by decide +kernel)
theorem mayEnter_of {P : Program} {rest : List (List Char)} (h : behindMainWord (wordsSigns P.initOrder.toList) = "cut".toList :: rest) (h1 : P.laysLater = false) (h2 : P.bearsReflect = false) (h3 : P.doorFits [] = true) : P.mayEnter = true := by
  unfold Program.mayEnter
  rw [h]
  simp only [strip_cut, h1, h2, h3]
  have e1 : ("cut".toList == "gc".toList || "cut".toList == "spec".toList) = false := by decide +kernel
  have e2 : ("cut".toList == "carried".toList) = false := by decide +kernel
  rw [e1, e2]
  simp
theorem liftsFinal_of {P : Program} {rest : List (List Char)} (h : behindMainWord (wordsSigns P.initOrder.toList) = "cut".toList :: rest) : P.liftsFinal = false := by
  unfold Program.liftsFinal Program.headLifts
  rw [h]
  have e1 : ((("cut".toList :: rest).head? == some "carried".toList) = false) := by
    rw [List.head?_cons]
    have : ("cut".toList == "carried".toList) = false := by decide +kernel
    simp
  simp only [strip_cut, e1]
  simp
theorem make_of {P : Program} {rest : List (List Char)} (h : behindMainWord (wordsSigns P.initOrder.toList) = "cut".toList :: rest) : P.make = some .cut := by
  unfold Program.make
  rw [h]
  have e1 : ("cut".toList == "gc".toList || "cut".toList == "spec".toList) = false := by decide +kernel
  simp only [e1]
  simp
theorem Tryz.init_eq : Tryz.prog.initOrder = String.ofList (mainSigns ++ Char.ofNat 32 :: (([49, 55, 54, 57, 56, 101, 99, 55, 55, 102, 55, 50, 98, 98, 48, 54, 48, 97, 98, 57, 98, 50, 57, 102, 98, 101, 98, 55, 97, 55, 53, 51, 55, 102, 50, 52, 54, 48, 57, 50, 99, 53, 99, 53, 50, 100, 101, 49, 53, 99, 53, 50, 51, 54, 100, 97, 102, 57, 102, 48, 49, 98, 97, 102] : List Nat).map Char.ofNat ++ Char.ofNat 32 :: (cutSigns ++ Char.ofNat 32 :: ([97, 116, 32, 110, 105, 110, 101, 112, 105, 110, 47, 110, 105, 110, 101, 112, 105, 110, 108, 97, 119, 50, 52, 46, 77, 111, 118, 101, 73, 110, 101, 114, 116] : List Nat).map Char.ofNat))) := by kernel_rfl
theorem Tryz.fact25 : Tryz.prog.mayEnter = true := mayEnter_of (behind_of Tryz.init_eq (nosign (by decide +kernel)) (by decide +kernel)) (by kernel_rfl) (by kernel_rfl) (by kernel_rfl)
theorem Tryz.fact26 : Tryz.prog.liftsFinal = false := liftsFinal_of (behind_of Tryz.init_eq (nosign (by decide +kernel)) (by decide +kernel))
theorem Tryz.fact27 : Tryz.prog.make = some .cut := make_of (behind_of Tryz.init_eq (nosign (by decide +kernel)) (by decide +kernel))
end Go.Proofs
end
