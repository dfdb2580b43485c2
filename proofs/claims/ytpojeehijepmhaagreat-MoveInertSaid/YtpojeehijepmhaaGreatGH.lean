/- The reference for numbers as bits: quotients, shifts, roots. -/
import Derived.Test.YtpojeehijepmhaaGreatGF
import Derived.Test.YtpojeehijepmhaaGreatGE

section
namespace Go.X
open Go.Proofs
attribute [local irreducible] Good
theorem bval_rest {f g : Nat → Int} {d : Nat} : ∀ {n : Nat}, d ≤ n → (∀ j, d ≤ j → j < n → f j = g j) → bval f n - bval g n = bval f d - bval g d
  | 0, h, _ => by have : d = 0 := by omega
                  rw [this]
  | n + 1, h, hs => by
    by_cases hd : d = n + 1
    · rw [hd]
    · rw [bval_succ, bval_succ, hs n (by omega) (by omega)]
      have := bval_rest (show d ≤ n by omega) fun j h1 h2 => hs j h1 (by omega)
      omega
noncomputable def rleastS : Sum := fun args env _ => match args with
  | [.slice p 0 n _, .slice q 0 n' _] => match env p, env q with
    | some ⟨[.arr .i64 k f], _⟩, some ⟨[.arr .i64 k' g], _⟩ => open Classical in if p ≠ q ∧ n = n' ∧ n ≤ k ∧ n ≤ k' ∧ n ≤ 1040 ∧ Bits f n ∧ Bits g n then .val (.bool (decide (bval f n < bval g n))) [] [] else .fail
    | _, _ => .fail
  | _ => .fail
noncomputable def rleastP (n c c' : Nat) (t5 : Option AV) : List (Option AV) := [some (.slice 0 0 n c), some (.slice 1 0 n c'), none, none, none, t5, none, none, none, none, none, none, none, none, none, none, none, none, none, none, none, none, none, none, none, none, none, none, none, none, none]
noncomputable def rleastM (k k' : Nat) (f g : Nat → Int) (ty ty' : TypeId) : List Blk := [⟨[.arr .i64 k f], ty⟩, ⟨[.arr .i64 k' g], ty'⟩]
noncomputable def rleastLoop : Code := match Tryz.f146.body with | some (.seq _ (.seq (.seq _ (.block _ (.loop c))) _)) => c | _ => .skip
set_option maxHeartbeats 4000000 in
theorem rleast_loop {f g : Nat → Int} {n c c' k k' : Nat} {ty ty' : TypeId} (hn : n ≤ 1040) (hk : n ≤ k) (hk' : n ≤ k') (hf : Bits f n) (hg : Bits g n) {Q : Ex → St → Prop}
    (hQ : ¬ bval f n < bval g n → ∀ (ts : List AV), Fits (rleastP n c c' none) ts → Q (.exit 0) ⟨ts, rleastM k k' f g ty ty', []⟩)
    (hR : ∀ (ts : List AV), ts[4]? = some (.bool (decide (bval f n < bval g n))) → Q .ret ⟨ts, rleastM k k' f g ty ty', []⟩)
    {ts : List AV} (h0 : Fits (rleastP n c c' (some (.int .i64 ((n : Int) - 1)))) ts) :
    Good (loopA (exec Tryz.T (stOf []) (fun _ => none) 1042 rleastLoop) 1042 ⟨ts, rleastM k k' f g ty ty', []⟩) Q := by
  refine loop_rule (fun d s => d ≤ n ∧ (∀ j, d ≤ j → j < n → f j = g j) ∧ Fits (rleastP n c c' (some (.int .i64 ((d : Int) - 1)))) s.ts ∧ s.m = rleastM k k' f g ty ty' ∧ s.df = []) ?_ 1042 n _ (by omega)
    ⟨Nat.le_refl _, fun j h1 h2 => by omega, h0, rfl, rfl⟩
  rintro d ⟨ts, mm, df⟩ ⟨hdn, hall, hfit, hm', hd⟩
  simp only at hfit hm' hd
  subst hm' hd
  obtain ⟨l, rfl⟩ := fits_of hfit 0
  have hrest := bval_rest hdn hall
  cases d with
  | zero =>
    have hno : ¬ bval f n < bval g n := by simp only [bval] at hrest; omega
    have hQ' := hQ hno
    simp only [rleastM] at hQ'
    simp [rleastLoop, rleastP, rleastM, Tryz.f146]
    exact hQ' _ (by simp [rleastP])
  | succ i =>
    have e1 : ((i + 1 : Nat) : Int) - 1 = i := by omega
    have hi2 : (0 : Int) ≤ i := by omega
    have hi1 : (i : Int) < n := by omega
    have hik : i < k := by omega
    have hik' : i < k' := by omega
    have w3 : IntKind.i64.wrap ((i : Int) - 1) = i - 1 := wrap_i64_in (by omega) (by omega)
    by_cases he : f i = g i
    · simp [rleastLoop, rleastP, rleastM, Tryz.f146, hi1, hi2, hik, hik', w3, he]
      refine ⟨i, by omega, by omega, fun j h1 h2 => ?_, rfl⟩
      by_cases hj : j = i
      · rw [hj]; exact he
      · exact hall j (by omega) h2
    · have hb : decide (bval f n < bval g n) = decide (f i < g i) := by
        have a := bval_bound (hf.less (show i ≤ n by omega)); have b := bval_bound (hg.less (show i ≤ n by omega))
        rw [bval_succ, bval_succ] at hrest
        have f1 := hf i (by omega); have g1 := hg i (by omega)
        rw [Bool.eq_iff_iff]
        simp only [decide_eq_true_eq]
        rcases f1 with e | e <;> rcases g1 with e' | e' <;> rw [e, e'] at hrest ⊢ <;> first | omega | (exact absurd (e.trans e'.symm) he)
      have hR' := hR
      simp only [rleastM] at hR'
      rw [hb] at hR'
      simp [rleastLoop, rleastP, rleastM, Tryz.f146, hi1, hi2, hik, hik', he]
      exact hR' _ rfl
theorem rleast_ok : SumOk Tryz.prog 146 rleastS := by
  refine sum_read (L := fun _ => none) (n := 1042) (S := stOf []) drawS Tryz.T_ok (stOf_ok (by simp)) Tryz.func146 rfl (by kernel_rfl) (by kernel_rfl) ?_
  intro args env nxt h
  unfold rleastS at h ⊢
  split at h
  · rename_i p n c q n' c'
    split at h
    · rename_i k f ty k' g ty' e1 e2
      split at h
      · rename_i hc
        obtain ⟨hne, rfl, hk, hk', hn, hf, hg⟩ := hc
        refine ⟨_, _, _, .bool (decide (bval f n < bval g n)), laid_two e1 e2 hne, by simp [hne, hk, hk', hn, hf, hg], by simp, by simp, ?_⟩
        have w : IntKind.i64.wrap ((n : Int) - 1) = n - 1 := wrap_i64_in (by omega) (by omega)
        simp [-loopA_succ, Tryz.f146, w]
        simp only [good_bind, good_unblock]
        refine rleast_loop (c := c) (c' := c') hn hk hk' hf hg (fun hno ts hfit => ?_) (fun ts ht => ?_) ?_
        · obtain ⟨l, rfl⟩ := fits_of hfit 0
          simp [rleastP, rleastM, hno]
        · simp [rleastM, ht]
        · simp [rleastP]
      · simp at h
    · simp at h
  · simp at h
noncomputable def rfurtherS : Sum := fun args env nxt => match args with
  | [.slice p 0 n _, .int .i64 m] => match env p with
    | some ⟨[.arr .i64 k f], _⟩ => open Classical in if n ≤ k ∧ n ≤ 1040 ∧ Bits f n ∧ 0 ≤ m ∧ m ≤ n then .val (.slice nxt 0 n n) [] [BL n (bval f n * 2 ^ m.toNat)] else .fail
    | _ => .fail
  | _ => .fail
noncomputable def rfurtherP (n c : Nat) (m : Int) (t6 : Option AV) : List (Option AV) := [some (.slice 0 0 n c), some (.int .i64 m), none, none, none, some (.slice 1 0 n n), t6, none, none, none, none, none, none, none, none, none, none, none, none, none, none, none, none, none, none, none, none, none]
noncomputable def rfurtherM (k : Nat) (f : Nat → Int) (ty : TypeId) (n : Nat) (l : Nat → Int) : List Blk := [⟨[.arr .i64 k f], ty⟩, ⟨[.arr .i64 n l], 3⟩]
noncomputable def rfurtherLoop : Code := match Tryz.f145.body with | some (.seq _ (.seq _ (.seq (.seq _ (.block _ (.loop c))) _))) => c | _ => .skip
theorem further_bit {f : Nat → Int} {n m i : Nat} (hf : Bits f n) (hi : i + m < n) : bitN n (bval f n * 2 ^ m) (i + m) = f i := by
  unfold bitN
  rw [if_pos hi, Nat.add_comm i m, Int.pow_add, ← Int.ediv_ediv_of_nonneg (Int.le_of_lt (pow_2_pos m)), Int.mul_ediv_cancel _ (Int.ne_of_gt (pow_2_pos m))]
  exact bval_bit hf (by omega)
theorem further_low {z : Int} {n m : Nat} : cutF (bitN n (z * 2 ^ m)) m = fun _ => 0 := by
  funext j
  unfold cutF bitN
  split
  · split
    · rename_i h _
      rw [show (2 : Int) ^ m = 2 ^ j * (2 * 2 ^ (m - j - 1)) from by rw [← Int.mul_assoc, ← Int.pow_succ, ← Int.pow_add]; congr 1; omega]
      rw [show z * (2 ^ j * (2 * 2 ^ (m - j - 1))) = z * (2 * 2 ^ (m - j - 1)) * 2 ^ j from by grind, Int.mul_ediv_cancel _ (Int.ne_of_gt (pow_2_pos j)), show z * (2 * 2 ^ (m - j - 1)) = 2 * (z * 2 ^ (m - j - 1)) from by grind]
      omega
    · rfl
  · rfl
set_option maxHeartbeats 4000000 in
theorem rfurther_loop {f : Nat → Int} {n c k m : Nat} {ty : TypeId} (hn : n ≤ 1040) (hk : n ≤ k) (hm : m ≤ n) (hf : Bits f n) {Q : Ex → St → Prop}
    (hQ : ∀ (ts : List AV), Fits (rfurtherP n c m none) ts → Q (.exit 0) ⟨ts, rfurtherM k f ty n (bitN n (bval f n * 2 ^ m)), []⟩)
    {ts : List AV} (h0 : Fits (rfurtherP n c m (some (.int .i64 0))) ts) :
    Good (loopA (exec Tryz.T (stOf []) (fun _ => none) 1042 rfurtherLoop) 1042 ⟨ts, rfurtherM k f ty n (fun _ => 0), []⟩) Q := by
  refine loop_rule (fun d s => ∃ i : Nat, i + m + d = n ∧ Fits (rfurtherP n c m (some (.int .i64 i))) s.ts ∧ s.m = rfurtherM k f ty n (cutF (bitN n (bval f n * 2 ^ m)) (i + m)) ∧ s.df = []) ?_ 1042 (n - m) _ (by omega)
    ⟨0, by omega, h0, by rw [Nat.zero_add, further_low], rfl⟩
  rintro d ⟨ts, mm, df⟩ ⟨i, hid, hfit, hm', hd⟩
  simp only at hfit hm' hd
  subst hm' hd
  obtain ⟨l, rfl⟩ := fits_of hfit 0
  have w1 : IntKind.i64.wrap ((i : Int) + m) = i + m := wrap_i64_in (by omega) (by omega)
  by_cases hi : i + m < n
  · have hi1 : (i : Int) + m < n := by omega
    have hi2 : (0 : Int) ≤ i := by omega
    have hi3 : (i : Int) < n := by omega
    have hi4 : (0 : Int) ≤ i + m := by omega
    have n1 : ((i : Int) + m).toNat = i + m := by omega
    have hik : i < k := by omega
    have w3 : IntKind.i64.wrap ((i : Int) + 1) = i + 1 := wrap_i64_in (by omega) (by omega)
    simp [rfurtherLoop, rfurtherP, rfurtherM, Tryz.f145, hi, hi1, hi2, hi3, hi4, n1, hik, w1, w3]
    exact ⟨d - 1, by omega, i + 1, by omega, by omega, by rw [cutF_upd (further_bit hf hi).symm, show i + 1 + m = i + m + 1 from by omega]⟩
  · have e : i + m = n := by omega
    have hi1 : ¬ (i : Int) + m < n := by omega
    have hQ' := hQ
    simp only [rfurtherM] at hQ'
    simp [rfurtherLoop, rfurtherP, rfurtherM, Tryz.f145, hi1, w1]
    rw [e, cutF_bitN]
    exact hQ' _ (by simp [rfurtherP])
theorem rfurther_ok : SumOk Tryz.prog 145 rfurtherS := by
  refine sum_mem (L := fun _ => none) (n := 1042) (S := stOf []) drawS Tryz.T_ok (stOf_ok (by simp)) Tryz.func145 rfl (by kernel_rfl) (by kernel_rfl) ?_
  intro args env nxt h
  unfold rfurtherS at h ⊢
  split at h
  · rename_i p n c m
    split at h
    · rename_i k f ty e1
      split at h
      · rename_i hc
        obtain ⟨hk, hn, hf, hm0, hm⟩ := hc
        obtain ⟨m, rfl⟩ := Int.eq_ofNat_of_zero_le hm0
        have hm' : m ≤ n := by omega
        have hl : Laid env [.slice p 0 n c, .int .i64 m] [.slice 0 0 n c, .int .i64 m] [p] [⟨[.arr .i64 k f], ty⟩] := by
          have := laid_one (o := 0) (n := n) (c := c) e1
          exact ⟨by simp [renL, AV.ren], this.len, this.nodup, by simp [refs, refsL], this.blk, this.bref⟩
        refine ⟨_, _, _, hl, ?_⟩
        have h1 : (n : Int) ≤ 68719476736 := by omega
        simp [-loopA_succ, Tryz.f145, h1]
        simp only [good_bind, good_unblock]
        refine rfurther_loop (c := c) hn hk hm' hf (fun ts hfit => ?_) ?_
        · obtain ⟨l, rfl⟩ := fits_of hfit 0
          simp [rfurtherP, rfurtherM, hf, hk, hn, hm']
          exact ⟨[1], none, told_new (by simp) rfl old_one noref_one⟩
        · simp [rfurtherP]
      · simp at h
    · simp at h
  · simp at h
end Go.X
end

section
namespace Go.X
open Go.Proofs
attribute [local irreducible] Good
noncomputable def rdivP (f g : Nat → Int) (ri : Nat) (t11 : Option AV) : List (Option AV) := [some (.arr .u64 8 f), some (.arr .u64 8 g), some (.ptr 0 0), some (.ptr 1 0), some (.ptr 2 0), some (.ptr 3 0), some (.bool false), some (.slice 4 0 520 520), some (.slice 5 0 520 520), some (.slice 6 0 520 520), some (.slice ri 0 520 520), t11, none, none, none, none, none, none, none, none, none, none, none, none, none, none, none, none, none, none, none, none, none, none, none, none, none, none, none, none, none, none, none, none, none, none, none, none, none, none, none, none, none, none, none, none, none, none, none, none, none, none, none, none, none, none, none, none, none, none, none, none, none, none, none, none, none, none, none, none, none, none, none, none, none, none, none, none, none, none, none, none, none, none, none, none, none, none, none, none, none, none, none]
structure DMem (m : List Blk) (f g : Nat → Int) (Y r : Int) (qf : Nat → Int) (ri : Nat) : Prop where
  a0 : m[0]? = some ⟨[.arr .u64 8 f], 76⟩
  a1 : m[1]? = some ⟨[.arr .u64 8 g], 76⟩
  a2 : m[2]? = some ⟨[.arr .u64 8 fun _ => 0], 76⟩
  a3 : m[3]? = some ⟨[.arr .u64 8 fun _ => 0], 76⟩
  a5 : m[5]? = some (BL 520 Y)
  a6 : m[6]? = some ⟨[.arr .i64 520 qf], 3⟩
  ar : m[ri]? = some (BL 520 r)
  r6 : ri ≠ 6
  r5 : ri ≠ 5
theorem get_app {m l : List Blk} {i : Nat} {b : Blk} (h : m[i]? = some b) : (m ++ l)[i]? = some b := by
  have : i < m.length := by
    rcases Nat.lt_or_ge i m.length with h' | h'
    · exact h'
    · rw [List.getElem?_eq_none h'] at h; simp at h
  rw [List.getElem?_append_left this, h]
theorem get_lt {m : List Blk} {i : Nat} {b : Blk} (h : m[i]? = some b) : i < m.length := by
  rcases Nat.lt_or_ge i m.length with h' | h'
  · exact h'
  · rw [List.getElem?_eq_none h'] at h; simp at h
theorem DMem.push {m : List Blk} {f g : Nat → Int} {Y r : Int} {qf : Nat → Int} {ri : Nat} (h : DMem m f g Y r qf ri) (l : List Blk) : DMem (m ++ l) f g Y r qf ri :=
  ⟨get_app h.a0, get_app h.a1, get_app h.a2, get_app h.a3, get_app h.a5, get_app h.a6, get_app h.ar, h.r6, h.r5⟩
theorem DMem.setq {m : List Blk} {f g : Nat → Int} {Y r : Int} {qf : Nat → Int} {ri : Nat} (h : DMem m f g Y r qf ri) (qf' : Nat → Int) : DMem (m.modify 6 fun b => { b with items := [.arr .i64 520 qf'] }) f g Y r qf' ri := by
  have o : ∀ i, i ≠ 6 → (m.modify 6 fun b => { b with items := [.arr .i64 520 qf'] })[i]? = m[i]? := by
    intro i hi
    rw [List.getElem?_modify]
    have : ¬ 6 = i := fun e => hi e.symm
    cases m[i]? <;> simp [this]
  refine ⟨by rw [o 0 (by omega)]; exact h.a0, by rw [o 1 (by omega)]; exact h.a1, by rw [o 2 (by omega)]; exact h.a2, by rw [o 3 (by omega)]; exact h.a3, by rw [o 5 (by omega)]; exact h.a5, ?_, by rw [o ri h.r6]; exact h.ar, h.r6, h.r5⟩
  rw [List.getElem?_modify, h.a6]; rfl
theorem app2 {α : Type} {o l : List α} {t u v : α} : (o ++ t :: u :: v :: l)[o.length + 2]? = some v := by
  rw [List.getElem?_append_right (by omega), show o.length + 2 - o.length = 2 from by omega]; rfl
theorem BL_add' {n : Nat} {x y : Int} : BL n (x + modP y n) = BL n (x + y) := by
  unfold BL
  rw [bitN_same (y := x + modP y n) (z := x + y)]
  unfold modP
  rw [Int.add_emod x, Int.emod_emod, ← Int.add_emod]
noncomputable def rdivSt : ST := stOf [(142, pureS signS), (143, rsizeS), (144, rtopS), (145, rfurtherS), (146, rleastS), (148, rminusS), (147, rplusS), (150, pureS rbelowS), (149, rofS)]
def rdivL (i : Nat) : Option DM := if i = 26 then some (.orders [[0, 1, 2, 3, 4], [1, 0, 2, 3, 4], [0, 2, 1, 3, 4]]) else none
noncomputable def rdivLoop : Code := match Tryz.f98.body with | some (.seq _ (.seq _ (.seq _ (.seq _ (.seq (.seq _ (.block _ (.loop c))) _))))) => c | _ => .skip
set_option maxHeartbeats 4000000 in
theorem rdiv_loop {f g : Nat → Int} {X Y : Int} {d0 : Nat} (hY : 0 < Y) (hd0 : d0 ≤ 512) (hX : X < 2 * K5) (hX0 : 0 ≤ X) (hfit0 : ∀ d, d < d0 → Y * 2 ^ d < 2 * K5) (hsm : X < Y * 2 ^ d0) {Q : Ex → St → Prop}
    (hQ : ∀ (ts : List AV) (m : List Blk) (r : Int) (qf : Nat → Int) (ri : Nat), DMem m f g Y r qf ri → Bits qf 520 → bval qf 520 * Y + r = X → 0 ≤ r → r < Y → Fits (rdivP f g ri none) ts → Q (.exit 0) ⟨ts, m, []⟩)
    {ts : List AV} {m0 : List Blk} (hm0 : DMem m0 f g Y X (fun _ => 0) 4) (hf0 : Fits (rdivP f g 4 (some (.int .i64 ((d0 : Int) - 1)))) ts) :
    Good (loopA (exec Tryz.T rdivSt rdivL 522 rdivLoop) 522 ⟨ts, m0, []⟩) Q := by
  have hz : ∀ n, bval (fun _ => 0) n = 0 := by
    intro n
    induction n with
    | zero => rfl
    | succ n ih => rw [bval_succ, ih]; omega
  have hK := K5_pos
  have big : ∀ z, 0 ≤ z → z < 2 * K5 → modP z 520 = z := by
    intro z h0 h1
    have h2 : (2 : Int) ^ 512 ≤ 2 ^ 520 := pow_le (by omega)
    rw [← K5_pow] at h2
    exact modP_in h0 (by omega)
  refine loop_rule (fun d st => d ≤ d0 ∧ ∃ (r : Int) (qf : Nat → Int) (ri : Nat) (m : List Blk), DMem m f g Y r qf ri ∧ Bits qf 520 ∧ (∀ j, j < d → qf j = 0) ∧ bval qf 520 * Y + r = X ∧ 0 ≤ r ∧ r < Y * 2 ^ d ∧ Fits (rdivP f g ri (some (.int .i64 ((d : Int) - 1)))) st.ts ∧ st.m = m ∧ st.df = []) ?_ 522 d0 _ (by omega)
    ⟨Nat.le_refl _, X, fun _ => 0, 4, m0, hm0, fun _ _ => .inl rfl, fun _ _ => rfl, by rw [hz]; omega, hX0, hsm, hf0, rfl, rfl⟩
  rintro d ⟨ts, m, df⟩ ⟨hd, r, qf, ri, mm, hm, hqb, hq0, hsum, hr0, hr1, hfit, hm', hdf⟩
  simp only at hfit hm' hdf
  subst hm' hdf
  obtain ⟨l, rfl⟩ := fits_of hfit 0
  have hqn := (bval_bound hqb).1
  have hrX : r < 2 * K5 := by
    have := Int.mul_nonneg hqn (Int.le_of_lt hY); omega
  cases d with
  | zero =>
    simp [rdivLoop, rdivP, rdivSt, Tryz.f98]
    rw [Int.pow_zero, Int.mul_one] at hr1
    exact hQ _ _ r qf ri hm hqb hsum hr0 hr1 (by simp [rdivP])
  | succ n =>
    have e1 : ((n + 1 : Nat) : Int) - 1 = n := by omega
    have hn2 : (0 : Int) ≤ n := by omega
    have hn3 : (n : Int) ≤ 520 := by omega
    have hn4 : (n : Int) < 520 := by omega
    have hn5 : n < 520 := by omega
    have w3 : IntKind.i64.wrap ((n : Int) - 1) = n - 1 := wrap_i64_in (by omega) (by omega)
    have l5 : ∀ l, (m ++ l)[5]? = some (BL 520 Y) := fun l => get_app hm.a5
    have l6 : ∀ l, (m ++ l)[6]? = some ⟨[.arr .i64 520 qf], 3⟩ := fun l => get_app hm.a6
    have lr : ∀ l, (m ++ l)[ri]? = some (BL 520 r) := fun l => get_app hm.ar
    have a5 := hm.a5
    have hne : ¬ ri = m.length := by have := get_lt hm.ar; omega
    have hne2 : ¬ ri = m.length + 1 := by have := get_lt hm.ar; omega
    have hYn := hfit0 n (by omega)
    have p0 := Int.mul_nonneg (Int.le_of_lt hY) (Int.le_of_lt (pow_2_pos n))
    have mY : modP Y 520 = Y := big Y (by omega) (by
      have := hfit0 0 (by omega)
      rw [Int.pow_zero, Int.mul_one] at this; exact this)
    have mS : modP (Y * 2 ^ n) 520 = Y * 2 ^ n := big _ p0 hYn
    have mr : modP r 520 = r := big _ hr0 hrX
    have hdbl : Y * 2 ^ (n + 1) = 2 * (Y * 2 ^ n) := by rw [Int.pow_succ]; grind
    by_cases hlt : r < Y * 2 ^ n
    · simp [rdivLoop, rdivP, rdivSt, Tryz.f98, hn2, hn3, w3, rfurtherS, rleastS, a5, lr, hne, mY, mS, mr, hlt]
      exact ⟨n, by omega, by omega, r, qf, ri, _, hm.push _, hqb, fun j hj => hq0 j (by omega), hsum, hr0, hlt, ⟨rfl, rfl⟩, rfl⟩
    · simp [rdivLoop, rdivP, rdivSt, Tryz.f98, hn2, hn3, hn4, hn5, w3, rfurtherS, rleastS, rminusS, rplusS, a5, l6, lr, hne, hne2, mY, mS, mr, hlt]
      have hd1 := hm.push [BL 520 (Y * 2 ^ n), BL 520 (-(Y * 2 ^ n)), BL 520 (r + modP (-(Y * 2 ^ n)) 520)]
      have hd2 : DMem (m ++ [BL 520 (Y * 2 ^ n), BL 520 (-(Y * 2 ^ n)), BL 520 (r + modP (-(Y * 2 ^ n)) 520)]) f g Y (r - Y * 2 ^ n) qf (m.length + 2) :=
        ⟨hd1.a0, hd1.a1, hd1.a2, hd1.a3, hd1.a5, hd1.a6, by rw [app2, BL_add', ← Int.sub_eq_add_neg], by have := get_lt hm.a6; omega, by have := get_lt hm.a6; omega⟩
      have hqn0 : qf n = 0 := hq0 n (by omega)
      refine ⟨n, by omega, by omega, r - Y * 2 ^ n, upd qf n 1, m.length + 2, _, hd2.setq _, Bits_upd hqb (.inr rfl), fun j hj => ?_, ?_, by omega, by omega, ⟨rfl, rfl⟩, rfl⟩
      · unfold upd; rw [if_neg (by omega)]; exact hq0 j (by omega)
      · rw [bval_upd hn5, hqn0, ← hsum, Int.add_mul]
        have : (1 - 0) * 2 ^ n * Y = Y * 2 ^ n := by rw [Int.mul_comm _ Y]; simp
        rw [this]; omega
end Go.X
end

section
namespace Go.X
open Go.Proofs
attribute [local irreducible] Good
set_option maxRecDepth 100000
theorem modk0 {α : Type} {o l : List α} {f : α → α} : (o ++ l).modify o.length f = o ++ l.modify 0 f := by
  induction o with
  | nil => simp
  | cons a o ih => simp only [List.cons_append, List.length_cons, List.modify_succ_cons]; rw [ih]
theorem modk {α : Type} {l : List α} {k : Nat} {f : α → α} : ∀ {o : List α}, (o ++ l).modify (o.length + k) f = o ++ l.modify k f
  | [] => by simp
  | a :: o => by
    rw [List.cons_append, List.length_cons, show o.length + 1 + k = (o.length + k) + 1 from by omega, List.modify_succ_cons, modk, List.cons_append]
theorem one_bits : bval (upd (fun _ => 0) 0 1) 520 = 1 := by
  have hz : ∀ n, bval (fun _ => 0) n = 0 := by
    intro n
    induction n with
    | zero => rfl
    | succ n ih => rw [bval_succ, ih]; omega
  rw [bval_upd (by omega), hz, Int.pow_zero]; rfl
set_option maxHeartbeats 40000000 in
theorem rdiv_ok : SumOk Tryz.prog 98 (pureS divS) := by
  refine sum_fn (L := rdivL) (n := 522) (S := rdivSt) drawS Tryz.T_ok (stOf_ok (by simp [rsign_ok, rsize_ok, rtop_ok, rfurther_ok, rleast_ok, rminus_ok, rplus_ok, rbelow_ok, rof_ok])) Tryz.func98 rfl (by kernel_rfl) (by kernel_rfl) ?_
    (by intro args v h; unfold divS at h; split at h <;> (try split at h) <;> simp at h)
  intro args v h
  unfold divS at h
  split at h
  · rename_i f g
    split at h
    · rename_i hc
      obtain ⟨hf, hg⟩ := hc
      cases h
      refine ⟨by simp, by unfold quoV; split <;> simp, by unfold quoV; split <;> simp, ?_⟩
      by_cases hz : sval g = 0
      · have hs0 : sgnI 0 = 0 := by decide
        simp [Tryz.f98, rdivSt, hg, hs0, quoV, hz]
        exact eqv_tup3 eqvW_zero eqvW_zero (Eqv.refl _)
      · have hs : ¬ sgnI (sval g) = 0 := fun e => hz (sgnI_zero.1 e)
        have ra := sval_range hf; have rb := sval_range hg
        have hK : 2 ≤ K5 := by unfold K5; omega
        have Y0 := absI_pos hz
        have X0 : 0 ≤ absI (sval f) := by unfold absI; split <;> omega
        have X1 : absI (sval f) ≤ K5 := by unfold absI; split <;> omega
        have Y1 : absI (sval g) ≤ K5 := by unfold absI; split <;> omega
        have big : ∀ z, 0 ≤ z → z < 2 * K5 → modP z 520 = z := by
          intro z h0 h1
          have h2 : (2 : Int) ^ 512 ≤ 2 ^ 520 := pow_le (by omega)
          rw [← K5_pow] at h2
          exact modP_in h0 (by omega)
        have mX := big (absI (sval f)) X0 (by omega)
        have mY := big (absI (sval g)) (by omega) (by omega)
        have bx0 := blen_nonneg (absI (sval f)); have by0 := blen_nonneg (absI (sval g))
        have bx1 := blen_le (z := absI (sval f)) (by omega); have by1 := blen_le (z := absI (sval g)) (by omega)
        have w0 : IntKind.i64.wrap (blen (absI (sval f)) - blen (absI (sval g))) = blen (absI (sval f)) - blen (absI (sval g)) := wrap_i64_in (by omega) (by omega)
        have bX := blen_lt X0
        have bY := blen_ge Y0
        have bY1 := blen_lt (Int.le_of_lt Y0)
        have hm0 : DMem [⟨[.arr .u64 8 f], 76⟩, ⟨[.arr .u64 8 g], 76⟩, ⟨[.arr .u64 8 fun _ => 0], 76⟩, ⟨[.arr .u64 8 fun _ => 0], 76⟩, BL 520 (absI (sval f)), BL 520 (absI (sval g)), ⟨[.arr .i64 520 fun _ => 0], 3⟩] f g (absI (sval g)) (absI (sval f)) (fun _ => 0) 4 :=
          ⟨rfl, rfl, rfl, rfl, rfl, rfl, rfl, by omega, by omega⟩
        have mem1 : sval f < 0 → absI (sval f) = - sval f := fun h => if_pos h
        simp [-loopA_succ, Tryz.f98, rdivSt, rdivL, hf, hg, hs, rsizeS, rtopS, mX, mY, w0]
        simp only [good_bind, good_unblock]
        refine Good.mono (Q := fun x s => x = .exit 0 ∧ ∃ (m : List Blk) (r : Int) (qf : Nat → Int) (ri : Nat), DMem m f g (absI (sval g)) r qf ri ∧ Bits qf 520 ∧ bval qf 520 * absI (sval g) + r = absI (sval f) ∧ 0 ≤ r ∧ r < absI (sval g) ∧ Fits (rdivP f g ri none) s.ts ∧ s.m = m ∧ s.df = []) ?_ ?_
        · rintro x ⟨ts, m, df⟩ ⟨rfl, mm, r, qf, ri, hm, hqb, hsum, hr0, hr1, hfit, hm', hdf⟩
          simp only at hfit hm' hdf
          subst hm' hdf
          obtain ⟨l, rfl⟩ := fits_of hfit 0
          have hqn := (bval_bound hqb).1
          have hqX : bval qf 520 ≤ absI (sval f) := by
            have := Int.mul_le_mul_of_nonneg_left (show 1 ≤ absI (sval g) by omega) hqn
            omega
          have hqe : bval qf 520 = absI (sval f) / absI (sval g) := by
            rw [← hsum, Int.add_comm, Int.add_mul_ediv_right _ _ (by omega), Int.ediv_eq_zero_of_lt hr0 hr1]; omega
          have hre : r = absI (sval f) % absI (sval g) := by
            rw [← hsum, Int.add_comm, Int.add_mul_emod_self_right, Int.emod_eq_of_lt hr0 hr1]
          obtain ⟨-, -, -, -, key⟩ := quoI_parts (A := absI (sval f)) (B := absI (sval g)) rfl rfl hz hqe hre
          have L0 : ∀ l, (m ++ l)[0]? = some ⟨[.arr .u64 8 f], 76⟩ := fun l => get_app hm.a0
          have L1 : ∀ l, (m ++ l)[1]? = some ⟨[.arr .u64 8 g], 76⟩ := fun l => get_app hm.a1
          have L2 : ∀ l, (m ++ l)[2]? = some ⟨[.arr .u64 8 fun _ => 0], 76⟩ := fun l => get_app hm.a2
          have L3 : ∀ l, (m ++ l)[3]? = some ⟨[.arr .u64 8 fun _ => 0], 76⟩ := fun l => get_app hm.a3
          have L5 : ∀ l, (m ++ l)[5]? = some (BL 520 (absI (sval g))) := fun l => get_app hm.a5
          have L6 : ∀ l, (m ++ l)[6]? = some ⟨[.arr .i64 520 qf], 3⟩ := fun l => get_app hm.a6
          have LR : ∀ l, (m ++ l)[ri]? = some (BL 520 r) := fun l => get_app hm.ar
          have M0 : ∀ l (h : 0 < (m ++ l).length), (m ++ l)[0]'h = ⟨[.arr .u64 8 f], 76⟩ := fun l h => Option.some.inj ((List.getElem?_eq_getElem h).symm.trans (L0 l))
          have M1 : ∀ l (h : 1 < (m ++ l).length), (m ++ l)[1]'h = ⟨[.arr .u64 8 g], 76⟩ := fun l h => Option.some.inj ((List.getElem?_eq_getElem h).symm.trans (L1 l))
          have M2 : ∀ l (h : 2 < (m ++ l).length), (m ++ l)[2]'h = ⟨[.arr .u64 8 fun _ => 0], 76⟩ := fun l h => Option.some.inj ((List.getElem?_eq_getElem h).symm.trans (L2 l))
          have M3 : ∀ l (h : 3 < (m ++ l).length), (m ++ l)[3]'h = ⟨[.arr .u64 8 fun _ => 0], 76⟩ := fun l h => Option.some.inj ((List.getElem?_eq_getElem h).symm.trans (L3 l))
          have M5 : ∀ l (h : 5 < (m ++ l).length), (m ++ l)[5]'h = BL 520 (absI (sval g)) := fun l h => Option.some.inj ((List.getElem?_eq_getElem h).symm.trans (L5 l))
          have M6 : ∀ l (h : 6 < (m ++ l).length), (m ++ l)[6]'h = ⟨[.arr .i64 520 qf], 3⟩ := fun l h => Option.some.inj ((List.getElem?_eq_getElem h).symm.trans (L6 l))
          have mr : modP r 520 = r := big _ hr0 (by omega)
          have hq519 : bval qf 520 < 2 ^ 519 := by rw [pow_2_519]; omega
          have eq0 : sgnB qf 520 = bval qf 520 := sgnB_top (n := 519) hqb hq519
          have eq1 : sgnB (bitN 520 (- bval qf 520)) 520 = - bval qf 520 := sgnB_520 (by omega) (by omega)
          have eq2 : sgnB (bitN 520 (-(bval qf 520 + 1))) 520 = -(bval qf 520 + 1) := sgnB_520 (by omega) (by omega)
          have er0 : sgnB (bitN 520 r) 520 = r := sgnB_520 (by omega) (by omega)
          have er1 : sgnB (bitN 520 (- r)) 520 = - r := sgnB_520 (by omega) (by omega)
          have er2 : sgnB (bitN 520 (absI (sval g) + - r)) 520 = absI (sval g) + - r := sgnB_520 (by omega) (by omega)
          have er3 : sgnB (bitN 520 (- (absI (sval g) + - r))) 520 = - (absI (sval g) + - r) := sgnB_520 (by omega) (by omega)
          have ir : InW r := by unfold InW; omega
          have sr := sval_limb ir
          have ob : Bits (upd (fun _ => 0) 0 1) 520 := Bits_upd (fun _ _ => .inl rfl) (.inr rfl)
          have g6 := get_lt hm.a6
          have ne5 : ∀ k, ¬ 5 = m.length + k := fun k => by omega
          have ne6 : ∀ k, ¬ 6 = m.length + k + 1 := fun k => by omega
          have mne : ¬ m = [] := by rintro rfl; simp at g6
          have ne6' : ¬ 6 = m.length + 1 := by omega
          have ne2 : ∀ k, ¬ 2 = m.length + k := fun k => by omega
          have ne3 : ∀ k, ¬ 3 = m.length + k := fun k => by omega
          by_cases h1 : sval f < 0 <;> by_cases h2 : sval g < 0
          · rw [if_pos (by omega), if_pos h2] at key
            obtain ⟨k1, k2⟩ := key
            have ir1 : InW (- r) := by unfold InW; omega
            by_cases hi : InW (bval qf 520)
            · simp [rdivP, rofS, rminusS, fitV, hf, hg, hqb, L1, L6, LR, M0, M2, M3, hm.ar, modk0, modk, h1, h2, mr, eq0, er0, er1, ir, mne, rdivL, hi, ir1]
              rw [quoV_fit hz k1 k2 hi]
              exact Eqv.refl _
            · simp [rdivP, rofS, rminusS, fitV, hf, hg, hqb, L1, L6, LR, M0, M2, M3, hm.ar, modk0, modk, h1, h2, mr, eq0, er0, er1, ir, rdivL, hi, ir1]
              rw [quoV_not k1 hi]
              exact eqv_tup3 eqvW_zero eqvW_zero (Eqv.refl _)
          · rw [if_neg (by omega)] at key
            by_cases hr : r = 0
            · rw [if_pos hr] at key
              obtain ⟨k1, k2⟩ := key
              have hsr : sgnI r = 0 := sgnI_zero.2 hr
              have i0 : InW 0 := InW_small (by omega)
              have ir1 : InW (- r) := by unfold InW; omega
              by_cases hi : InW (- bval qf 520)
              · simp [rdivP, rofS, rminusS, fitV, hf, hg, hqb, L1, L6, LR, M0, M1, M2, M3, hm.ar, modk0, modk, R8_limb, h1, h2, eq1, er0, ir, sr, mne, rdivL, hi, hsr]
                rw [quoV_fit hz k1 k2 hi, hr]
                exact Eqv.refl _
              · simp [rdivP, rofS, rminusS, fitV, hf, hg, hqb, L1, L6, LR, M0, M1, M2, M3, hm.ar, modk0, modk, R8_limb, h1, h2, eq1, er0, ir, sr, rdivL, hi, hsr]
                rw [quoV_not k1 hi]
                exact eqv_tup3 eqvW_zero eqvW_zero (Eqv.refl _)
            · rw [if_neg hr, if_neg h2] at key
              obtain ⟨k1, k2⟩ := key
              have hsr : ¬ sgnI r = 0 := fun e => hr (sgnI_zero.1 e)
              have ir1 : InW (absI (sval g) + - r) := by unfold InW; omega
              by_cases hi : InW (-(bval qf 520 + 1))
              · simp [rdivP, rofS, rminusS, rplusS, fitV, hf, hg, hqb, L1, L5, L6, LR, M0, M1, M2, M3, hm.ar, modk0, modk, R8_limb, h1, h2, mr, mY, eq2, er0, er2, ir, sr, one_bits, ob, mne, ne5, ne6', BL_add', rdivL, hi, hsr, ir1]
                rw [quoV_fit hz k1 k2 hi, Int.sub_eq_add_neg]
                exact Eqv.refl _
              · simp [rdivP, rofS, rminusS, rplusS, fitV, hf, hg, hqb, L1, L5, L6, LR, M0, M1, M2, M3, hm.ar, modk0, modk, R8_limb, h1, h2, mr, mY, eq2, er0, er2, ir, sr, one_bits, ob, ne5, ne6', BL_add', rdivL, hi, hsr, ir1]
                rw [quoV_not k1 hi]
                exact eqv_tup3 eqvW_zero eqvW_zero (Eqv.refl _)
          · rw [if_neg (by omega)] at key
            by_cases hr : r = 0
            · rw [if_pos hr] at key
              obtain ⟨k1, k2⟩ := key
              have hsr : sgnI r = 0 := sgnI_zero.2 hr
              have i0 : InW 0 := InW_small (by omega)
              have ir1 : InW (- r) := by unfold InW; omega
              by_cases hi : InW (- bval qf 520)
              · simp [rdivP, rofS, rminusS, fitV, hf, hg, hqb, L1, L6, LR, M0, M1, M2, M3, hm.ar, modk0, modk, R8_limb, h1, h2, mr, eq1, er0, er1, ir, sr, mne, rdivL, hi, hsr, ir1]
                rw [quoV_fit hz k1 k2 hi, hr, Int.neg_zero]
                exact Eqv.refl _
              · simp [rdivP, rofS, rminusS, fitV, hf, hg, hqb, L1, L6, LR, M0, M1, M2, M3, hm.ar, modk0, modk, R8_limb, h1, h2, mr, eq1, er0, er1, ir, sr, rdivL, hi, hsr, ir1]
                rw [quoV_not k1 hi]
                exact eqv_tup3 eqvW_zero eqvW_zero (Eqv.refl _)
            · rw [if_neg hr, if_pos h2] at key
              obtain ⟨k1, k2⟩ := key
              have hsr : ¬ sgnI r = 0 := fun e => hr (sgnI_zero.1 e)
              have ir1 : InW (- (absI (sval g) + - r)) := by unfold InW; omega
              by_cases hi : InW (-(bval qf 520 + 1))
              · simp [rdivP, rofS, rminusS, rplusS, fitV, hf, hg, hqb, L1, L5, L6, LR, M0, M1, M2, M3, hm.ar, modk0, modk, R8_limb, h1, h2, mr, mY, eq2, er0, er3, ir, sr, one_bits, ob, mne, ne5, ne6', BL_add', rdivL, hi, hsr, ir1]
                rw [quoV_fit hz k1 k2 hi, Int.sub_eq_add_neg]
                exact Eqv.refl _
              · simp [rdivP, rofS, rminusS, rplusS, fitV, hf, hg, hqb, L1, L5, L6, LR, M0, M1, M2, M3, hm.ar, modk0, modk, R8_limb, h1, h2, mr, mY, eq2, er0, er3, ir, sr, one_bits, ob, ne5, ne6', BL_add', rdivL, hi, hsr, ir1]
                rw [quoV_not k1 hi]
                exact eqv_tup3 eqvW_zero eqvW_zero (Eqv.refl _)
          · rw [if_pos (by omega), if_neg h2] at key
            obtain ⟨k1, k2⟩ := key
            by_cases hi : InW (bval qf 520)
            · simp [rdivP, rofS, fitV, hf, hg, hqb, L1, L3, L6, LR, M0, M2, hm.ar, modk0, modk, h1, h2, eq0, er0, ir, mne, rdivL, hi]
              rw [quoV_fit hz k1 k2 hi]
              exact Eqv.refl _
            · simp [rdivP, rofS, fitV, hf, hg, hqb, L1, L3, L6, LR, M0, M2, hm.ar, modk0, modk, h1, h2, eq0, er0, ir, rdivL, hi]
              rw [quoV_not k1 hi]
              exact eqv_tup3 eqvW_zero eqvW_zero (Eqv.refl _)
        · by_cases hn : blen (absI (sval f)) - blen (absI (sval g)) < 0
          · have hlt : absI (sval f) < absI (sval g) := by
              have := pow_le (a := (blen (absI (sval f))).toNat) (b := (blen (absI (sval g))).toNat - 1) (by omega)
              omega
            have hz520 : bval (fun _ => 0) 520 = 0 := by
              have hz : ∀ n, bval (fun _ => 0) n = 0 := by
                intro n
                induction n with
                | zero => rfl
                | succ n ih => rw [bval_succ, ih]; omega
              exact hz 520
            have hle : ¬ blen (absI (sval g)) ≤ blen (absI (sval f)) := by omega
            simp [hle]
            refine ⟨_, absI (sval f), fun _ => 0, 4, hm0, fun _ _ => .inl rfl, by rw [hz520]; omega, X0, hlt, ?_⟩
            simp [rdivP]
          · obtain ⟨n, hnn⟩ : ∃ n : Nat, blen (absI (sval f)) - blen (absI (sval g)) = n := ⟨(blen (absI (sval f)) - blen (absI (sval g))).toNat, by omega⟩
            rw [hnn]
            refine rdiv_loop (X := absI (sval f)) (d0 := n + 1) Y0 (by omega) (by omega) X0 (fun d hd => ?_) ?_ (fun ts m r qf ri h1 h2 h3 h4 h5 h6 => ⟨rfl, m, r, qf, ri, h1, h2, h3, h4, h5, h6, rfl, rfl⟩) hm0 ?_
            · have e : absI (sval g) * 2 ^ d < 2 ^ (blen (absI (sval g))).toNat * 2 ^ d := Int.mul_lt_mul_of_pos_right bY1 (pow_2_pos d)
              rw [← Int.pow_add] at e
              have := pow_le (a := (blen (absI (sval g))).toNat + d) (b := 512) (by omega)
              rw [← K5_pow] at this
              omega
            · have e : 2 ^ ((blen (absI (sval g))).toNat - 1) * 2 ^ (n + 1) ≤ absI (sval g) * 2 ^ (n + 1) := Int.mul_le_mul_of_nonneg_right bY.2 (Int.le_of_lt (pow_2_pos _))
              rw [← Int.pow_add, show (blen (absI (sval g))).toNat - 1 + (n + 1) = (blen (absI (sval f))).toNat from by omega] at e
              omega
            · simp [rdivP]
    · simp at h
  · simp at h
end Go.X
end

section
namespace Go.X
open Go.Proofs
attribute [local irreducible] Good
theorem sgnB_congr {f g : Nat → Int} {n : Nat} (hn : 0 < n) (h : ∀ j, j < n → f j = g j) : sgnB f n = sgnB g n := by
  unfold sgnB
  rw [h (n - 1) (by omega), bval_congr h]
theorem off_bits {z : Int} {n m j : Nat} (h : n + j < m) (hj : j < 512) : offB (bitN m z) n j = bitN 512 (z / 2 ^ n) j := by
  unfold offB bitN
  rw [if_pos h, if_pos hj, Int.ediv_ediv_of_nonneg (Int.le_of_lt (pow_2_pos n)), ← Int.pow_add]
theorem sgnB_off {z : Int} (hz : InW z) {n : Nat} (hn : n ≤ 511) : sgnB (offB (bitN 1024 z) n) 512 = z / 2 ^ n := by
  rw [sgnB_congr (by omega) fun j hj => off_bits (by omega) hj]
  have hi := InW_ediv hz (pow_2_pos n)
  refine sgnB_bitN (n := 511) ?_ ?_
  · rw [pow_2_511]; exact hi.1
  · rw [pow_2_511]; exact hi.2
theorem Bits_off {z : Int} {m n k : Nat} : Bits (offB (bitN m z) n) k := fun i _ => by
  unfold offB bitN; split <;> omega
set_option maxHeartbeats 4000000 in
theorem rshr_ok : SumOk Tryz.prog 183 (pureS shrS) := by
  refine sum_fn (L := fun _ => none) (n := 1) (S := stOf [(182, longS), (149, rofS)]) drawS Tryz.T_ok (stOf_ok (by simp [long_ok, rof_ok])) Tryz.func183 rfl (by kernel_rfl) (by kernel_rfl) ?_
    (by intro args v h; unfold shrS at h; split at h <;> (try split at h) <;> simp at h)
  intro args v h
  unfold shrS at h
  split at h
  · rename_i f n
    split at h
    · rename_i hc
      obtain ⟨hf, hn⟩ := hc
      cases h
      refine ⟨by simp, by simp, by simp, ?_⟩
      by_cases hneg : n < 0
      · simp [Tryz.f183, hneg]
        rw [show (min n 511).toNat = 0 from by omega]
        simp only [Int.pow_zero, Int.ediv_one]
        exact eqvW_self hf
      · have ra := sval_range hf
        have go : ∀ m : Nat, m ≤ 511 → sgnB (offB (bitN 1024 (sval f)) m) 512 = sval f / 2 ^ m ∧ InW (sval f / 2 ^ m) ∧ IntKind.i64.wrap ((m : Int) + 512) = m + 512 := fun m hm => ⟨sgnB_off ra hm, InW_ediv ra (pow_2_pos m), wrap_i64_in (by omega) (by omega)⟩
        by_cases hb : 511 < n
        · have e : (min n 511).toNat = 511 := by omega
          obtain ⟨g0, g2, -⟩ := go (min n 511).toNat (by omega)
          have g1 : sgnB (offB (bitN 1024 (sval f)) 511) 512 = sval f / 2 ^ (min n 511).toNat := by
            rw [← g0]
            exact congrArg (fun k => sgnB (offB (bitN 1024 (sval f)) k) 512) e.symm
          simp [Tryz.f183, hf, hneg, hb, longS, rofS, sliceA, fitV, Bits_off, g1, g2]
          exact Eqv.refl _
        · obtain ⟨m, rfl⟩ : ∃ m : Nat, n = m := ⟨n.toNat, by omega⟩
          obtain ⟨g1, g2, g3⟩ := go m (by omega)
          have e : (min (m : Int) 511).toNat = m := by omega
          have h1 : (m : Int) ≤ 1024 := by omega
          have h2 : (m : Int) ≤ m + 512 := by omega
          have h3 : (m : Int) + 512 ≤ 1024 := by omega
          have h4 : ¬ (1024 : Int) = m := by omega
          have h5 : ((m : Int) + 512).toNat - m = 512 := by omega
          have h6 : m + 512 ≤ 1024 := by omega
          simp [Tryz.f183, hf, hneg, hb, longS, rofS, sliceA, fitV, Bits_off, g1, g2, g3, h2, h3, h4, h5, h6]
          rw [e]
          exact Eqv.refl _
    · simp at h
  · simp at h
end Go.X
end

section
namespace Go.X
open Go.Proofs
attribute [local irreducible] Good
theorem bval_cat {n n' o o' : Nat} {f g : Nat → Int} : ∀ {m : Nat}, m ≤ n' → bval (catF n n' f o g o') (n + m) = bval (offB f o) n + bval (offB g o') m * 2 ^ n
  | 0, _ => by
    simp only [Nat.add_zero, bval, Int.zero_mul, Int.add_zero]
    exact bval_congr fun j hj => by unfold catF offB; rw [if_pos hj]
  | m + 1, h => by
    rw [← Nat.add_assoc, bval_succ, bval_cat (by omega), bval_succ]
    have e : catF n n' f o g o' (n + m) = g (o' + m) := by unfold catF; rw [if_neg (by omega), if_pos (by omega), Nat.add_sub_cancel_left]
    rw [e, Int.pow_add, Int.add_mul]
    unfold offB
    grind
theorem Bits_cat {n n' o o' : Nat} {f g : Nat → Int} (hf : Bits (offB f o) n) (hg : Bits (offB g o') n') : Bits (catF n n' f o g o') (n + n') := by
  intro j hj
  unfold catF
  by_cases h : j < n
  · rw [if_pos h]; exact hf j h
  · rw [if_neg h, if_pos hj]; exact hg (j - n) (by omega)
theorem sgnB_cat {n n' o o' : Nat} {f g : Nat → Int} (h : 0 < n') : sgnB (catF n n' f o g o') (n + n') = bval (offB f o) n + sgnB (offB g o') n' * 2 ^ n := by
  unfold sgnB
  rw [bval_cat (Nat.le_refl _)]
  have e : catF n n' f o g o' (n + n' - 1) = offB g o' (n' - 1) := by
    unfold catF offB
    rw [if_neg (by omega), if_pos (by omega), show n + n' - 1 - n = n' - 1 from by omega]
  rw [e]
  split
  · rw [Int.pow_add]; grind
  · rfl
theorem bval_zero : ∀ n, bval (fun _ => 0) n = 0
  | 0 => rfl
  | n + 1 => by rw [bval_succ, bval_zero n]; omega
theorem off_zero {f : Nat → Int} : offB f 0 = f := by funext i; unfold offB; rw [Nat.zero_add]
set_option maxHeartbeats 4000000 in
theorem rshl_ok : SumOk Tryz.prog 151 (pureS shlS) := by
  refine sum_fn (L := fun _ => none) (n := 1) (S := stOf [(142, pureS signS), (182, longS), (149, rofS)]) drawS Tryz.T_ok (stOf_ok (by simp [rsign_ok, long_ok, rof_ok])) Tryz.func151 rfl (by kernel_rfl) (by kernel_rfl) ?_
    (by intro args v h; unfold shlS at h; split at h <;> (try split at h) <;> simp at h)
  intro args v h
  unfold shlS at h
  split at h
  · rename_i f n
    split at h
    · rename_i hc
      obtain ⟨hf, hn⟩ := hc
      cases h
      refine ⟨by simp, by unfold shlV; split <;> simp [fitV], by unfold shlV; split <;> simp [fitV], ?_⟩
      by_cases hneg : n < 0
      · simp [Tryz.f151, hneg, shlV]
        exact eqv_tup2 eqvW_zero (Eqv.refl _)
      · have ra := sval_range hf
        obtain ⟨m, rfl⟩ : ∃ m : Nat, n = m := ⟨n.toNat, by omega⟩
        by_cases hz : sval f = 0
        · have hs : sgnI 0 = 0 := by decide
          have i0 : InW 0 := InW_small (by omega)
          by_cases hb : 511 < (m : Int)
          · simp [Tryz.f151, hf, hneg, hb, shlV, hz, hs, fitV, i0]
            exact eqv_tup2 (eqvW_of hf hz) (Eqv.refl _)
          · simp [Tryz.f151, hf, hneg, hb, shlV, hz, hs, fitV, i0]
            exact eqv_tup2 (eqvW_of hf hz) (Eqv.refl _)
        · have hs : ¬ sgnI (sval f) = 0 := fun e => hz (sgnI_zero.1 e)
          by_cases hb : 511 < (m : Int)
          · have hni : ¬ InW (sval f * 2 ^ m) := by
              exact shl_far hz (by omega)
            simp [Tryz.f151, hf, hneg, hb, shlV, hs, fitV, hni]
            exact eqv_tup2 eqvW_zero (Eqv.refl _)
          · have e0 : bval (fun _ => 0) m = 0 := bval_zero m
            have g1 : sgnB (catF m 520 (fun _ => 0) 0 (bitN 520 (sval f)) 0) (m + 520) = sval f * 2 ^ m := by
              rw [sgnB_cat (by omega), off_zero, off_zero, e0, Int.zero_add]
              have hK := K5_pos
              unfold InW at ra
              rw [sgnB_520 (by omega) (by omega)]
            have hB : Bits (catF m 520 (fun _ => 0) 0 (bitN 520 (sval f)) 0) (m + 520) := by
              refine Bits_cat ?_ ?_
              · rw [off_zero]; exact fun _ _ => .inl rfl
              · rw [off_zero]; exact Bits_bitN _ _ _
            have h1 : (m : Int) ≤ 68719476736 := by omega
            have h2 : m + 520 ≤ 1060 := by omega
            have h3 : m + 520 ≤ 1048576 := by omega
            have h4 : m < m + 520 := by omega
            simp [Tryz.f151, hf, hneg, hb, shlV, hs, longS, rofS, appA, fitV, g1, hB, h1, h2, h3, h4]
            exact Eqv.refl _
    · simp at h
  · simp at h
end Go.X
end

section
namespace Go.X
open Go.Proofs
attribute [local irreducible] Good
set_option maxRecDepth 100000
structure QMem (m : List Blk) (V : Int) (ri kr : Nat) (gr : Nat → Int) (tr : TypeId) (li kl : Nat) (gl : Nat → Int) (tl : TypeId) : Prop where
  a1 : m[1]? = some ⟨[.arr .u64 8 fun _ => 0], 76⟩
  a2 : m[2]? = some (BL 512 V)
  ar : m[ri]? = some ⟨[.arr .i64 kr gr], tr⟩
  al : m[li]? = some ⟨[.arr .i64 kl gl], tl⟩
  kr520 : 520 ≤ kr
  kl520 : 520 ≤ kl
structure QI (V : Int) (d : Nat) (gr gl : Nat → Int) : Prop where
  br : Bits gr 520
  bl : Bits gl 520
  sum : bval gr 520 * bval gr 520 + bval gl 520 = V / 2 ^ (2 * d)
  le : bval gl 520 ≤ 2 * bval gr 520
theorem QI.small {V : Int} {d : Nat} {gr gl : Nat → Int} (h : QI V d gr gl) (h0 : 0 ≤ V) (hV : V < K5) : bval gr 520 < 2 ^ 256 ∧ bval gl 520 < 2 ^ 257 ∧ 0 ≤ bval gr 520 ∧ 0 ≤ bval gl 520 := by
  have b1 := (bval_bound h.br).1
  have b2 := (bval_bound h.bl).1
  have hs := h.sum
  have hd : V / 2 ^ (2 * d) ≤ V := Int.ediv_le_self _ h0
  have hl := h.le
  have h3 := pow_2_256
  have h4 := pow_2_pos 256
  have h5 : (2 : Int) ^ 257 = 2 ^ 256 * 2 := Int.pow_succ 2 256
  have hr : bval gr 520 < 2 ^ 256 := by
    rcases Int.lt_or_le (bval gr 520) (2 ^ 256) with h' | h'
    · exact h'
    · have := Int.mul_le_mul h' h' (by omega) b1
      omega
  refine ⟨hr, ?_, b1, b2⟩
  rw [h5]
  omega
end Go.X
end

section
namespace Go.X
open Go.Proofs
attribute [local irreducible] Good
set_option maxRecDepth 100000
end Go.X
end
