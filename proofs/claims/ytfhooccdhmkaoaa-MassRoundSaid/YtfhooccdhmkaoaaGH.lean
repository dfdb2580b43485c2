/- The reference for numbers as bits: quotients, shifts, roots. -/
import Derived.Test.YtfhooccdhmkaoaaGF
import Derived.Test.YtfhooccdhmkaoaaGE

section
namespace Go.X
open Go.Proofs
attribute [local irreducible] Good

theorem bval_rest {f g : Nat → Int} {d : Nat} : ∀ {n : Nat}, d ≤ n → (∀ j, d ≤ j → j < n → f j = g j) → bval f n - bval g n = bval f d - bval g d
  | 0, h, _ => by have : d = 0 := by omega
                  rw [this]
  | n + 1, h, hs => by
    by_cases hd : d = n + 1
    · rw [hd]
    · rw [bval_succ, bval_succ, hs n (by omega) (by omega)]
      have := bval_rest (show d ≤ n by omega) fun j h1 h2 => hs j h1 (by omega)
      omega

noncomputable def rleastS : Sum := fun args env _ => match args with
  | [.slice p 0 n _, .slice q 0 n' _] => match env p, env q with
    | some ⟨[.arr .i64 k f], _⟩, some ⟨[.arr .i64 k' g], _⟩ => open Classical in if p ≠ q ∧ n = n' ∧ n ≤ k ∧ n ≤ k' ∧ n ≤ 1040 ∧ Bits f n ∧ Bits g n then .val (.bool (decide (bval f n < bval g n))) [] [] else .fail
    | _, _ => .fail
  | _ => .fail
noncomputable def rleastP (n c c' : Nat) (t5 : Option AV) : List (Option AV) := [some (.slice 0 0 n c), some (.slice 1 0 n c'), none, none, none, t5, none, none, none, none, none, none, none, none, none, none, none, none, none, none, none, none, none, none, none, none, none, none, none, none, none]
noncomputable def rleastM (k k' : Nat) (f g : Nat → Int) (ty ty' : TypeId) : List Blk := [⟨[.arr .i64 k f], ty⟩, ⟨[.arr .i64 k' g], ty'⟩]
noncomputable def rfurtherS : Sum := fun args env nxt => match args with
  | [.slice p 0 n _, .int .i64 m] => match env p with
    | some ⟨[.arr .i64 k f], _⟩ => open Classical in if n ≤ k ∧ n ≤ 1040 ∧ Bits f n ∧ 0 ≤ m ∧ m ≤ n then .val (.slice nxt 0 n n) [] [BL n (bval f n * 2 ^ m.toNat)] else .fail
    | _ => .fail
  | _ => .fail
noncomputable def rfurtherP (n c : Nat) (m : Int) (t6 : Option AV) : List (Option AV) := [some (.slice 0 0 n c), some (.int .i64 m), none, none, none, some (.slice 1 0 n n), t6, none, none, none, none, none, none, none, none, none, none, none, none, none, none, none, none, none, none, none, none, none]
noncomputable def rfurtherM (k : Nat) (f : Nat → Int) (ty : TypeId) (n : Nat) (l : Nat → Int) : List Blk := [⟨[.arr .i64 k f], ty⟩, ⟨[.arr .i64 n l], 3⟩]
theorem further_bit {f : Nat → Int} {n m i : Nat} (hf : Bits f n) (hi : i + m < n) : bitN n (bval f n * 2 ^ m) (i + m) = f i := by
  unfold bitN
  rw [if_pos hi, Nat.add_comm i m, Int.pow_add, ← Int.ediv_ediv_of_nonneg (Int.le_of_lt (pow_2_pos m)), Int.mul_ediv_cancel _ (Int.ne_of_gt (pow_2_pos m))]
  exact bval_bit hf (by omega)
theorem further_low {z : Int} {n m : Nat} : cutF (bitN n (z * 2 ^ m)) m = fun _ => 0 := by
  funext j
  unfold cutF bitN
  split
  · split
    · rename_i h _
      rw [show (2 : Int) ^ m = 2 ^ j * (2 * 2 ^ (m - j - 1)) from by rw [← Int.mul_assoc, ← Int.pow_succ, ← Int.pow_add]; congr 1; omega]
      rw [show z * (2 ^ j * (2 * 2 ^ (m - j - 1))) = z * (2 * 2 ^ (m - j - 1)) * 2 ^ j from by grind, Int.mul_ediv_cancel _ (Int.ne_of_gt (pow_2_pos j)), show z * (2 * 2 ^ (m - j - 1)) = 2 * (z * 2 ^ (m - j - 1)) from by grind]
      omega
    · rfl
  · rfl

end Go.X
end

section
namespace Go.X
open Go.Proofs
attribute [local irreducible] Good

noncomputable def rdivP (f g : Nat → Int) (ri : Nat) (t11 : Option AV) : List (Option AV) := [some (.arr .u64 8 f), some (.arr .u64 8 g), some (.ptr 0 0), some (.ptr 1 0), some (.ptr 2 0), some (.ptr 3 0), some (.bool false), some (.slice 4 0 520 520), some (.slice 5 0 520 520), some (.slice 6 0 520 520), some (.slice ri 0 520 520), t11, none, none, none, none, none, none, none, none, none, none, none, none, none, none, none, none, none, none, none, none, none, none, none, none, none, none, none, none, none, none, none, none, none, none, none, none, none, none, none, none, none, none, none, none, none, none, none, none, none, none, none, none, none, none, none, none, none, none, none, none, none, none, none, none, none, none, none, none, none, none, none, none, none, none, none, none, none, none, none, none, none, none, none, none, none, none, none, none, none, none, none]
/-- what lies in memory -/
structure DMem (m : List Blk) (f g : Nat → Int) (Y r : Int) (qf : Nat → Int) (ri : Nat) : Prop where
  a0 : m[0]? = some ⟨[.arr .u64 8 f], 91⟩
  a1 : m[1]? = some ⟨[.arr .u64 8 g], 91⟩
  a2 : m[2]? = some ⟨[.arr .u64 8 fun _ => 0], 91⟩
  a3 : m[3]? = some ⟨[.arr .u64 8 fun _ => 0], 91⟩
  a5 : m[5]? = some (BL 520 Y)
  a6 : m[6]? = some ⟨[.arr .i64 520 qf], 3⟩
  ar : m[ri]? = some (BL 520 r)
  r6 : ri ≠ 6
  r5 : ri ≠ 5
theorem get_app {m l : List Blk} {i : Nat} {b : Blk} (h : m[i]? = some b) : (m ++ l)[i]? = some b := by
  have : i < m.length := by
    rcases Nat.lt_or_ge i m.length with h' | h'
    · exact h'
    · rw [List.getElem?_eq_none h'] at h; simp at h
  rw [List.getElem?_append_left this, h]
theorem get_lt {m : List Blk} {i : Nat} {b : Blk} (h : m[i]? = some b) : i < m.length := by
  rcases Nat.lt_or_ge i m.length with h' | h'
  · exact h'
  · rw [List.getElem?_eq_none h'] at h; simp at h
theorem DMem.push {m : List Blk} {f g : Nat → Int} {Y r : Int} {qf : Nat → Int} {ri : Nat} (h : DMem m f g Y r qf ri) (l : List Blk) : DMem (m ++ l) f g Y r qf ri :=
  ⟨get_app h.a0, get_app h.a1, get_app h.a2, get_app h.a3, get_app h.a5, get_app h.a6, get_app h.ar, h.r6, h.r5⟩
theorem DMem.setq {m : List Blk} {f g : Nat → Int} {Y r : Int} {qf : Nat → Int} {ri : Nat} (h : DMem m f g Y r qf ri) (qf' : Nat → Int) : DMem (m.modify 6 fun b => { b with items := [.arr .i64 520 qf'] }) f g Y r qf' ri := by
  have o : ∀ i, i ≠ 6 → (m.modify 6 fun b => { b with items := [.arr .i64 520 qf'] })[i]? = m[i]? := by
    intro i hi
    rw [List.getElem?_modify]
    have : ¬ 6 = i := fun e => hi e.symm
    cases m[i]? <;> simp [this]
  refine ⟨by rw [o 0 (by omega)]; exact h.a0, by rw [o 1 (by omega)]; exact h.a1, by rw [o 2 (by omega)]; exact h.a2, by rw [o 3 (by omega)]; exact h.a3, by rw [o 5 (by omega)]; exact h.a5, ?_, by rw [o ri h.r6]; exact h.ar, h.r6, h.r5⟩
  rw [List.getElem?_modify, h.a6]; rfl
theorem app2 {α : Type} {o l : List α} {t u v : α} : (o ++ t :: u :: v :: l)[o.length + 2]? = some v := by
  rw [List.getElem?_append_right (by omega), show o.length + 2 - o.length = 2 from by omega]; rfl

theorem BL_add' {n : Nat} {x y : Int} : BL n (x + modP y n) = BL n (x + y) := by
  unfold BL
  rw [bitN_same (y := x + modP y n) (z := x + y)]
  unfold modP
  rw [Int.add_emod x, Int.emod_emod, ← Int.add_emod]

def rdivL (i : Nat) : Option DM := if i = 26 then some (.orders [[0, 1, 2, 3, 4], [1, 0, 2, 3, 4], [0, 2, 1, 3, 4]]) else none
end Go.X
end

section
namespace Go.X
open Go.Proofs
attribute [local irreducible] Good
set_option maxRecDepth 100000

theorem appk {α : Type} {o l : List α} {k : Nat} : (o ++ l)[o.length + k]? = l[k]? := by
  rw [List.getElem?_append_right (by omega), show o.length + k - o.length = k from by omega]
theorem modk0 {α : Type} {o l : List α} {f : α → α} : (o ++ l).modify o.length f = o ++ l.modify 0 f := by
  induction o with
  | nil => simp
  | cons a o ih => simp only [List.cons_append, List.length_cons, List.modify_succ_cons]; rw [ih]
theorem modk {α : Type} {l : List α} {k : Nat} {f : α → α} : ∀ {o : List α}, (o ++ l).modify (o.length + k) f = o ++ l.modify k f
  | [] => by simp
  | a :: o => by
    rw [List.cons_append, List.length_cons, show o.length + 1 + k = (o.length + k) + 1 from by omega, List.modify_succ_cons, modk, List.cons_append]
theorem one_bits : bval (upd (fun _ => 0) 0 1) 520 = 1 := by
  have hz : ∀ n, bval (fun _ => 0) n = 0 := by
    intro n
    induction n with
    | zero => rfl
    | succ n ih => rw [bval_succ, ih]; omega
  rw [bval_upd (by omega), hz, Int.pow_zero]; rfl

end Go.X
end

section
namespace Go.X
open Go.Proofs
attribute [local irreducible] Good

theorem sgnB_congr {f g : Nat → Int} {n : Nat} (hn : 0 < n) (h : ∀ j, j < n → f j = g j) : sgnB f n = sgnB g n := by
  unfold sgnB
  rw [h (n - 1) (by omega), bval_congr h]
theorem off_bits {z : Int} {n m j : Nat} (h : n + j < m) (hj : j < 512) : offB (bitN m z) n j = bitN 512 (z / 2 ^ n) j := by
  unfold offB bitN
  rw [if_pos h, if_pos hj, Int.ediv_ediv_of_nonneg (Int.le_of_lt (pow_2_pos n)), ← Int.pow_add]
theorem sgnB_off {z : Int} (hz : InW z) {n : Nat} (hn : n ≤ 511) : sgnB (offB (bitN 1024 z) n) 512 = z / 2 ^ n := by
  rw [sgnB_congr (by omega) fun j hj => off_bits (by omega) hj]
  have hi := InW_ediv hz (pow_2_pos n)
  refine sgnB_bitN (n := 511) ?_ ?_
  · rw [pow_2_511]; exact hi.1
  · rw [pow_2_511]; exact hi.2
theorem Bits_off {z : Int} {m n k : Nat} : Bits (offB (bitN m z) n) k := fun i _ => by
  unfold offB bitN; split <;> omega

set_option maxHeartbeats 4000000 in
theorem rshr_ok : SumOk Try.prog 155 (pureS shrS) := by
  refine sum_fn (L := fun _ => none) (n := 1) (S := stOf [(186, longS), (185, rofS)]) drawS Try.T_ok (stOf_ok (by simp [long_ok, rof_ok])) Try.func155 rfl (by kernel_rfl) (by kernel_rfl) ?_
    (by intro args v h; unfold shrS at h; split at h <;> (try split at h) <;> simp at h)
  intro args v h
  unfold shrS at h
  split at h
  · rename_i f n
    split at h
    · rename_i hc
      obtain ⟨hf, hn⟩ := hc
      cases h
      refine ⟨by simp, by simp, by simp, ?_⟩
      by_cases hneg : n < 0
      · simp [Try.f155, hneg]
        rw [show (min n 511).toNat = 0 from by omega]
        simp only [Int.pow_zero, Int.ediv_one]
        exact eqvW_self hf
      · have ra := sval_range hf
        have go : ∀ m : Nat, m ≤ 511 → sgnB (offB (bitN 1024 (sval f)) m) 512 = sval f / 2 ^ m ∧ InW (sval f / 2 ^ m) ∧ IntKind.i64.wrap ((m : Int) + 512) = m + 512 := fun m hm => ⟨sgnB_off ra hm, InW_ediv ra (pow_2_pos m), wrap_i64_in (by omega) (by omega)⟩
        by_cases hb : 511 < n
        · have e : (min n 511).toNat = 511 := by omega
          obtain ⟨g0, g2, -⟩ := go (min n 511).toNat (by omega)
          have g1 : sgnB (offB (bitN 1024 (sval f)) 511) 512 = sval f / 2 ^ (min n 511).toNat := by
            rw [← g0]
            exact congrArg (fun k => sgnB (offB (bitN 1024 (sval f)) k) 512) e.symm
          simp [Try.f155, hf, hneg, hb, longS, rofS, sliceA, fitV, Bits_off, g1, g2]
          exact Eqv.refl _
        · obtain ⟨m, rfl⟩ : ∃ m : Nat, n = m := ⟨n.toNat, by omega⟩
          obtain ⟨g1, g2, g3⟩ := go m (by omega)
          have e : (min (m : Int) 511).toNat = m := by omega
          have h1 : (m : Int) ≤ 1024 := by omega
          have h2 : (m : Int) ≤ m + 512 := by omega
          have h3 : (m : Int) + 512 ≤ 1024 := by omega
          have h4 : ¬ (1024 : Int) = m := by omega
          have h5 : ((m : Int) + 512).toNat - m = 512 := by omega
          have h6 : m + 512 ≤ 1024 := by omega
          simp [Try.f155, hf, hneg, hb, longS, rofS, sliceA, fitV, Bits_off, g1, g2, g3, h2, h3, h4, h5, h6]
          rw [e]
          exact Eqv.refl _
    · simp at h
  · simp at h

end Go.X
end

section
namespace Go.X
open Go.Proofs
attribute [local irreducible] Good

theorem bval_cat {n n' o o' : Nat} {f g : Nat → Int} : ∀ {m : Nat}, m ≤ n' → bval (catF n n' f o g o') (n + m) = bval (offB f o) n + bval (offB g o') m * 2 ^ n
  | 0, _ => by
    simp only [Nat.add_zero, bval, Int.zero_mul, Int.add_zero]
    exact bval_congr fun j hj => by unfold catF offB; rw [if_pos hj]
  | m + 1, h => by
    rw [← Nat.add_assoc, bval_succ, bval_cat (by omega), bval_succ]
    have e : catF n n' f o g o' (n + m) = g (o' + m) := by unfold catF; rw [if_neg (by omega), if_pos (by omega), Nat.add_sub_cancel_left]
    rw [e, Int.pow_add, Int.add_mul]
    unfold offB
    grind
theorem Bits_cat {n n' o o' : Nat} {f g : Nat → Int} (hf : Bits (offB f o) n) (hg : Bits (offB g o') n') : Bits (catF n n' f o g o') (n + n') := by
  intro j hj
  unfold catF
  by_cases h : j < n
  · rw [if_pos h]; exact hf j h
  · rw [if_neg h, if_pos hj]; exact hg (j - n) (by omega)
theorem sgnB_cat {n n' o o' : Nat} {f g : Nat → Int} (h : 0 < n') : sgnB (catF n n' f o g o') (n + n') = bval (offB f o) n + sgnB (offB g o') n' * 2 ^ n := by
  unfold sgnB
  rw [bval_cat (Nat.le_refl _)]
  have e : catF n n' f o g o' (n + n' - 1) = offB g o' (n' - 1) := by
    unfold catF offB
    rw [if_neg (by omega), if_pos (by omega), show n + n' - 1 - n = n' - 1 from by omega]
  rw [e]
  split
  · rw [Int.pow_add]; grind
  · rfl
theorem bval_zero : ∀ n, bval (fun _ => 0) n = 0
  | 0 => rfl
  | n + 1 => by rw [bval_succ, bval_zero n]; omega
theorem off_zero {f : Nat → Int} : offB f 0 = f := by funext i; unfold offB; rw [Nat.zero_add]

set_option maxHeartbeats 4000000 in
theorem rshl_ok : SumOk Try.prog 156 (pureS shlS) := by
  refine sum_fn (L := fun _ => none) (n := 1) (S := stOf [(187, pureS signS), (186, longS), (185, rofS)]) drawS Try.T_ok (stOf_ok (by simp [rsign_ok, long_ok, rof_ok])) Try.func156 rfl (by kernel_rfl) (by kernel_rfl) ?_
    (by intro args v h; unfold shlS at h; split at h <;> (try split at h) <;> simp at h)
  intro args v h
  unfold shlS at h
  split at h
  · rename_i f n
    split at h
    · rename_i hc
      obtain ⟨hf, hn⟩ := hc
      cases h
      refine ⟨by simp, by unfold shlV; split <;> simp [fitV], by unfold shlV; split <;> simp [fitV], ?_⟩
      by_cases hneg : n < 0
      · simp [Try.f156, hneg, shlV]
        exact eqv_tup2 eqvW_zero (Eqv.refl _)
      · have ra := sval_range hf
        obtain ⟨m, rfl⟩ : ∃ m : Nat, n = m := ⟨n.toNat, by omega⟩
        by_cases hz : sval f = 0
        · have hs : sgnI 0 = 0 := by decide
          have i0 : InW 0 := InW_small (by omega)
          by_cases hb : 511 < (m : Int)
          · simp [Try.f156, hf, hneg, hb, shlV, hz, hs, fitV, i0]
            exact eqv_tup2 (eqvW_of hf hz) (Eqv.refl _)
          · simp [Try.f156, hf, hneg, hb, shlV, hz, hs, fitV, i0]
            exact eqv_tup2 (eqvW_of hf hz) (Eqv.refl _)
        · have hs : ¬ sgnI (sval f) = 0 := fun e => hz (sgnI_zero.1 e)
          by_cases hb : 511 < (m : Int)
          · have hni : ¬ InW (sval f * 2 ^ m) := by
              exact shl_far hz (by omega)
            simp [Try.f156, hf, hneg, hb, shlV, hs, fitV, hni]
            exact eqv_tup2 eqvW_zero (Eqv.refl _)
          · have e0 : bval (fun _ => 0) m = 0 := bval_zero m
            have g1 : sgnB (catF m 520 (fun _ => 0) 0 (bitN 520 (sval f)) 0) (m + 520) = sval f * 2 ^ m := by
              rw [sgnB_cat (by omega), off_zero, off_zero, e0, Int.zero_add]
              have hK := K5_pos
              unfold InW at ra
              rw [sgnB_520 (by omega) (by omega)]
            have hB : Bits (catF m 520 (fun _ => 0) 0 (bitN 520 (sval f)) 0) (m + 520) := by
              refine Bits_cat ?_ ?_
              · rw [off_zero]; exact fun _ _ => .inl rfl
              · rw [off_zero]; exact Bits_bitN _ _ _
            have h1 : (m : Int) ≤ 68719476736 := by omega
            have h2 : m + 520 ≤ 1060 := by omega
            have h3 : m + 520 ≤ 1048576 := by omega
            have h4 : m < m + 520 := by omega
            simp [Try.f156, hf, hneg, hb, shlV, hs, longS, rofS, appA, fitV, g1, hB, h1, h2, h3, h4]
            exact Eqv.refl _
    · simp at h
  · simp at h

end Go.X
end

section
namespace Go.X
open Go.Proofs
attribute [local irreducible] Good
set_option maxRecDepth 100000

noncomputable def rsqrtP (f : Nat → Int) (ri cr li cl : Nat) (t7 : Option AV) : List (Option AV) := [some (.arr .u64 8 f), some (.ptr 0 0), some (.ptr 1 0), some (.bool false), some (.slice 2 0 512 512), some (.slice ri 0 520 cr), some (.slice li 0 520 cl), t7, none, none, none, none, none, none, none, none, none, none, none, none, none, none, none, none, none, none, none, none, none, none, none, none, none, none, none, none, none, none, none, none, none, none, none, none, none, none, none, none, none, none, none, none, none, none, none, none, none, none, none, none, none]
/-- what lies in memory -/
structure QMem (m : List Blk) (V : Int) (ri kr : Nat) (gr : Nat → Int) (tr : TypeId) (li kl : Nat) (gl : Nat → Int) (tl : TypeId) : Prop where
  a1 : m[1]? = some ⟨[.arr .u64 8 fun _ => 0], 91⟩
  a2 : m[2]? = some (BL 512 V)
  ar : m[ri]? = some ⟨[.arr .i64 kr gr], tr⟩
  al : m[li]? = some ⟨[.arr .i64 kl gl], tl⟩
  kr520 : 520 ≤ kr
  kl520 : 520 ≤ kl
/-- what a round of the root keeps: two bits at a time -/
structure QI (V : Int) (d : Nat) (gr gl : Nat → Int) : Prop where
  br : Bits gr 520
  bl : Bits gl 520
  sum : bval gr 520 * bval gr 520 + bval gl 520 = V / 2 ^ (2 * d)
  le : bval gl 520 ≤ 2 * bval gr 520

theorem bval_short {g : Nat → Int} {n : Nat} : ∀ {k : Nat}, Bits g (n + k) → bval g (n + k) < 2 ^ n → bval g n = bval g (n + k)
  | 0, _, _ => rfl
  | k + 1, hb, h => by
    have h2 := bval_bound (hb.less (show n + k ≤ n + (k + 1) by omega))
    have hp : (2 : Int) ^ n ≤ 2 ^ (n + k) := pow_le (by omega)
    have e : bval g (n + (k + 1)) = bval g (n + k) + g (n + k) * 2 ^ (n + k) := bval_succ g (n + k)
    rcases hb (n + k) (by omega) with h0 | h0
    · rw [h0] at e
      rw [e, Int.zero_mul, Int.add_zero]
      exact bval_short (hb.less (by omega)) (by rw [e] at h; omega)
    · rw [h0] at e
      rw [e] at h
      omega
theorem cat_two' {a b : Int} {g : Nat → Int} {n' : Nat} : bval (catF 2 n' (fun i => [a, b][i]?.getD 0) 0 g 0) (2 + n') = a + 2 * b + 4 * bval g n' := by
  rw [bval_cat (Nat.le_refl _), off_zero, off_zero]
  simp [bval]
  omega
theorem cat_two {a b : Int} {g : Nat → Int} : bval (catF 2 518 (fun i => [a, b][i]?.getD 0) 0 g 0) 520 = a + 2 * b + 4 * bval g 518 := cat_two' (n' := 518)
theorem cat_one' {a : Int} {g : Nat → Int} {n' : Nat} : bval (catF 1 n' (fun i => [a][i]?.getD 0) 0 g 0) (1 + n') = a + 2 * bval g n' := by
  rw [bval_cat (Nat.le_refl _), off_zero, off_zero]
  simp [bval]
  omega
theorem cat_one {a : Int} {g : Nat → Int} : bval (catF 1 519 (fun i => [a][i]?.getD 0) 0 g 0) 520 = a + 2 * bval g 519 := cat_one' (n' := 519)
theorem Bits_two {a b : Int} {g : Nat → Int} (ha : a = 0 ∨ a = 1) (hb : b = 0 ∨ b = 1) (hg : Bits g 520) : Bits (catF 2 518 (fun i => [a, b][i]?.getD 0) 0 g 0) 520 := by
  refine Bits_cat ?_ ?_
  · rw [off_zero]
    intro i hi
    have : i = 0 ∨ i = 1 := by omega
    rcases this with rfl | rfl
    · exact ha
    · exact hb
  · rw [off_zero]; exact hg.less (by omega)
theorem Bits_one {a : Int} {g : Nat → Int} (ha : a = 0 ∨ a = 1) (hg : Bits g 520) : Bits (catF 1 519 (fun i => [a][i]?.getD 0) 0 g 0) 520 := by
  refine Bits_cat ?_ ?_
  · rw [off_zero]
    intro i hi
    have : i = 0 := by omega
    rw [this]; exact ha
  · rw [off_zero]; exact hg.less (by omega)
theorem bit_in {n j : Nat} {z : Int} (h : j < n) : bitN n z j = z / 2 ^ j % 2 := if_pos h
theorem bit_four {V : Int} {n : Nat} : V / 2 ^ (2 * n) = 4 * (V / 2 ^ (2 * (n + 1))) + 2 * (V / 2 ^ (2 * n + 1) % 2) + V / 2 ^ (2 * n) % 2 := by
  have h1 : V / 2 ^ (2 * n + 1) = V / 2 ^ (2 * n) / 2 := by
    rw [Int.pow_succ, Int.ediv_ediv_of_nonneg (Int.le_of_lt (pow_2_pos _))]
  have h2 : V / 2 ^ (2 * (n + 1)) = V / 2 ^ (2 * n) / 4 := by
    rw [show 2 * (n + 1) = 2 * n + 2 from by omega, Int.pow_add, Int.ediv_ediv_of_nonneg (Int.le_of_lt (pow_2_pos _))]
    rfl
  rw [h1, h2]
  omega
theorem QI.small {V : Int} {d : Nat} {gr gl : Nat → Int} (h : QI V d gr gl) (h0 : 0 ≤ V) (hV : V < K5) : bval gr 520 < 2 ^ 256 ∧ bval gl 520 < 2 ^ 257 ∧ 0 ≤ bval gr 520 ∧ 0 ≤ bval gl 520 := by
  have b1 := (bval_bound h.br).1
  have b2 := (bval_bound h.bl).1
  have hs := h.sum
  have hd : V / 2 ^ (2 * d) ≤ V := Int.ediv_le_self _ h0
  have hl := h.le
  have h3 := pow_2_256
  have h4 := pow_2_pos 256
  have h5 : (2 : Int) ^ 257 = 2 ^ 256 * 2 := Int.pow_succ 2 256
  have hr : bval gr 520 < 2 ^ 256 := by
    rcases Int.lt_or_le (bval gr 520) (2 ^ 256) with h' | h'
    · exact h'
    · have := Int.mul_le_mul h' h' (by omega) b1
      omega
  refine ⟨hr, ?_, b1, b2⟩
  rw [h5]
  omega

def rsqrtL (_ : Nat) : Option DM := none
end Go.X
end

section
namespace Go.X
open Go.Proofs
attribute [local irreducible] Good
set_option maxRecDepth 100000

end Go.X
end
