/- The reference for numbers as bits: up to products. -/
import Derived.Test.YtpojeehijepmhaaGreatGE
import Derived.Test.YtpojeehijepmhaaGreatGB

section
namespace Go.X
def bitN (n : Nat) (z : Int) (j : Nat) : Int := if j < n then z / 2 ^ j % 2 else 0
def bval (f : Nat → Int) : Nat → Int
  | 0 => 0
  | n + 1 => bval f n + f n * 2 ^ n
def Bits (f : Nat → Int) (n : Nat) : Prop := ∀ i, i < n → f i = 0 ∨ f i = 1
theorem Bits_bitN (n m : Nat) (z : Int) : Bits (bitN n z) m := by
  intro i _
  unfold bitN
  split <;> omega
theorem Bits.less {f : Nat → Int} {n m : Nat} (h : Bits f n) (hm : m ≤ n) : Bits f m := fun i hi => h i (by omega)
theorem bval_bound {f : Nat → Int} : ∀ {n : Nat}, Bits f n → 0 ≤ bval f n ∧ bval f n < 2 ^ n
  | 0, _ => by simp [bval]
  | n + 1, h => by
    obtain ⟨h1, h2⟩ := bval_bound (h.less (Nat.le_succ n))
    have hp := pow_2_pos n
    simp only [bval, Int.pow_succ]
    rcases h n (by omega) with e | e <;> rw [e] <;> omega
theorem bval_bit {f : Nat → Int} {n : Nat} (h : Bits f n) : ∀ {i : Nat}, i < n → bval f n / 2 ^ i % 2 = f i := by
  induction n with
  | zero => intro i hi; omega
  | succ n ih =>
    intro i hi
    have hn := h.less (Nat.le_succ n)
    obtain ⟨h1, h2⟩ := bval_bound hn
    have hp := pow_2_pos n
    simp only [bval]
    by_cases hin : i = n
    · subst hin
      rw [Int.add_mul_ediv_right _ _ (Int.ne_of_gt hp), Int.ediv_eq_zero_of_lt h1 h2]
      rcases h i (by omega) with e | e <;> rw [e] <;> decide
    · rw [show (2 : Int) ^ n = 2 ^ i * (2 * 2 ^ (n - i - 1)) from by rw [← Int.mul_assoc, ← Int.pow_succ, ← Int.pow_add]; congr 1; omega]
      rw [show f n * (2 ^ i * (2 * 2 ^ (n - i - 1))) = f n * (2 * 2 ^ (n - i - 1)) * 2 ^ i from by grind, Int.add_mul_ediv_right _ _ (Int.ne_of_gt (pow_2_pos i)), show f n * (2 * 2 ^ (n - i - 1)) = 2 * (f n * 2 ^ (n - i - 1)) from by grind, Int.add_mul_emod_self_left]
      exact ih hn (by omega)
theorem bitN_bval {f : Nat → Int} {n : Nat} (h : Bits f n) {j : Nat} (hj : j < n) : bitN n (bval f n) j = f j := by
  unfold bitN; rw [if_pos hj, bval_bit h hj]
theorem bval_congr {f g : Nat → Int} : ∀ {n : Nat}, (∀ i, i < n → f i = g i) → bval f n = bval g n
  | 0, _ => rfl
  | n + 1, h => by simp only [bval]; rw [bval_congr fun i hi => h i (by omega), h n (by omega)]
theorem emod_pow_succ (z : Int) (n : Nat) : z % 2 ^ (n + 1) = z % 2 ^ n + z / 2 ^ n % 2 * 2 ^ n := by
  have hp := pow_2_pos n
  rw [Int.pow_succ]
  have h1 := Int.mul_ediv_add_emod z (2 ^ n)
  have h2 := Int.emod_nonneg z (Int.ne_of_gt hp)
  have h3 := Int.emod_lt_of_pos z hp
  have h4 : z = z % 2 ^ n + z / 2 ^ n % 2 * 2 ^ n + 2 ^ n * 2 * (z / 2 ^ n / 2) := by
    have : z / 2 ^ n = 2 * (z / 2 ^ n / 2) + z / 2 ^ n % 2 := by omega
    conv => lhs; rw [← h1]
    generalize z % 2 ^ n = r
    generalize z / 2 ^ n = y at *
    conv => lhs; rw [this]
    grind
  have h5 : 0 ≤ z / 2 ^ n % 2 ∧ z / 2 ^ n % 2 ≤ 1 := by omega
  have h6 : z / 2 ^ n % 2 * 2 ^ n ≤ 2 ^ n := by
    have := Int.mul_le_mul_of_nonneg_right h5.2 (Int.le_of_lt hp); omega
  have h7 := Int.mul_nonneg h5.1 (Int.le_of_lt hp)
  conv => lhs; rw [h4]
  rw [Int.add_mul_emod_self_left, Int.emod_eq_of_lt (by omega) (by omega)]
theorem bval_bits (z : Int) {m : Nat} : ∀ {n : Nat}, n ≤ m → bval (bitN m z) n = z % 2 ^ n
  | 0, _ => by simp [bval, Int.emod_one]
  | n + 1, h => by
    simp only [bval]
    rw [bval_bits z (by omega), emod_pow_succ]
    unfold bitN
    rw [if_pos (by omega)]
theorem bit_mod (z : Int) {j n : Nat} (h : j < n) : z % 2 ^ n / 2 ^ j % 2 = z / 2 ^ j % 2 := by
  have hj := pow_2_pos j
  have e : (2 : Int) ^ n = 2 ^ j * (2 * 2 ^ (n - j - 1)) := by rw [← Int.mul_assoc, ← Int.pow_succ, ← Int.pow_add]; congr 1; omega
  have h1 := Int.mul_ediv_add_emod z (2 ^ n)
  conv => rhs; rw [← h1]
  rw [Int.add_comm, show 2 ^ n * (z / 2 ^ n) = (2 * (2 ^ (n - j - 1) * (z / 2 ^ n))) * 2 ^ j from by rw [e]; grind, Int.add_mul_ediv_right _ _ (Int.ne_of_gt hj), Int.add_mul_emod_self_left]
theorem bitN_mod (n : Nat) (z : Int) : bitN n (z % 2 ^ n) = bitN n z := by
  funext j
  unfold bitN
  split
  · rename_i h; exact bit_mod z h
  · rfl
theorem bitN_same {n : Nat} {y z : Int} (h : y % 2 ^ n = z % 2 ^ n) : bitN n y = bitN n z := by rw [← bitN_mod n y, h, bitN_mod]
theorem add_bits {f g : Nat → Int} {n : Nat} (hf : Bits f n) (hg : Bits g n) {i : Nat} (hi : i < n) :
    (f i + g i + (bval f i + bval g i) / 2 ^ i) % 2 = bitN n (bval f n + bval g n) i ∧ (f i + g i + (bval f i + bval g i) / 2 ^ i) / 2 = (bval f (i + 1) + bval g (i + 1)) / 2 ^ (i + 1) := by
  have hp := pow_2_pos i
  have e : (bval f (i + 1) + bval g (i + 1)) / 2 ^ i = f i + g i + (bval f i + bval g i) / 2 ^ i := by
    simp only [bval]
    rw [show bval f i + f i * 2 ^ i + (bval g i + g i * 2 ^ i) = (bval f i + bval g i) + (f i + g i) * 2 ^ i from by grind, Int.add_mul_ediv_right _ _ (Int.ne_of_gt hp)]
    omega
  constructor
  · unfold bitN
    rw [if_pos hi, ← e]
    have up : ∀ {f : Nat → Int}, Bits f n → bval f n % 2 ^ (i + 1) = bval f (i + 1) := by
      intro f hf
      have h1 := bval_bound (hf.less (show i + 1 ≤ n by omega))
      have h2 : bval f (i + 1) = bval (bitN n (bval f n)) (i + 1) := bval_congr fun j hj => (bitN_bval hf (by omega)).symm
      rw [h2, bval_bits _ (by omega)]
    rw [← up hf, ← up hg, ← bit_mod _ (show i < i + 1 by omega), ← Int.add_emod, bit_mod _ (by omega)]
  · rw [Int.pow_succ, ← Int.ediv_ediv_of_nonneg (Int.le_of_lt hp), e]
end Go.X
end

section
namespace Go.X
open Go.Proofs
attribute [simp] Tryz.T_174
attribute [local irreducible] Good
theorem limb_bit {f : Nat → Int} (hf : R8 f) {k : Nat} (hk : k < 512) : f (k / 64) / 2 ^ (k % 64) % 2 = sval f / 2 ^ k % 2 := by
  rw [limb_sval hf (k / 64) (by omega), limb_eq]
  have h := bit_mod (sval f / 18446744073709551616 ^ (k / 64)) (show k % 64 < 64 by omega)
  rw [show (2 : Int) ^ 64 = 18446744073709551616 from rfl] at h
  rw [h, div_pow, show 64 * (k / 64) + k % 64 = k from by omega]
theorem sign_bit {z : Int} (h : InW z) {i : Nat} (hi : 511 ≤ i) : z / 2 ^ i % 2 = z / 2 ^ 511 % 2 := by rw [shr_all h hi, shr_all h (Nat.le_refl _)]
abbrev BL (n : Nat) (z : Int) : Blk := ⟨[.arr .i64 n (bitN n z)], 3⟩
theorem told_new {θ : List Nat} {m0 m' : List Blk} {nxt q n c k : Nat} {f : Nat → Int} {ty : TypeId} (h1 : θ.length ≤ q) (h2 : m'[q]? = some ⟨[.arr .i64 k f], ty⟩) (h3 : ∀ i, i < θ.length → m'[i]? = m0[i]?) (h6 : ∀ i, i < θ.length → refsL (m0.getD i default).items = [] := by simp) :
    Told θ m0 m' nxt [q] none (.slice q 0 n c) (.val (.slice nxt 0 n c) [] [⟨[.arr .i64 k f], ty⟩]) := by
  have h4 : q < m'.length := by
    rcases Nat.lt_or_ge q m'.length with h | h
    · exact h
    · rw [List.getElem?_eq_none h] at h2; simp at h2
  have h5 : m'.getD q default = ⟨[.arr .i64 k f], ty⟩ := by rw [List.getD_eq_getElem?_getD, h2]; rfl
  refine ⟨?_, by simp, by simp; omega, by omega, fun i hi _ => h3 i hi, by simp, by simp [refs], ?_, by simp⟩
  · simp only [List.map_cons, List.map_nil, h5]
    simp [upOf, glB, glob, AV.ren, renL, show ¬ q < θ.length by omega]
  · intro p hp b hb
    rcases hp with hp | hp
    · have e : m'.getD p default = m0.getD p default := by rw [List.getD_eq_getElem?_getD, h3 p hp, ← List.getD_eq_getElem?_getD]
      rw [e, h6 p hp] at hb
      simp at hb
    · simp at hp
      subst hp
      rw [h5] at hb
      simp [refs] at hb
theorem old_two {p q : Nat} {A B : Blk} {l : List Blk} : ∀ i, i < [p, q].length → (A :: B :: l)[i]? = [A, B][i]?
  | 0, _ => rfl
  | 1, _ => rfl
  | i + 2, h => by simp only [List.length_cons, List.length_nil] at h; omega
theorem noref_two {p q k k' : Nat} {f g : Nat → Int} {ty ty' : TypeId} : ∀ i, i < [p, q].length → refsL (([⟨[.arr .i64 k f], ty⟩, ⟨[.arr .i64 k' g], ty'⟩] : List Blk).getD i default).items = []
  | 0, _ => by simp [refs]
  | 1, _ => by simp [refs]
  | i + 2, h => by simp only [List.length_cons, List.length_nil] at h; omega
theorem old_one {p : Nat} {A : Blk} {l : List Blk} : ∀ i, i < [p].length → (A :: l)[i]? = [A][i]?
  | 0, _ => rfl
  | i + 1, h => by simp at h
theorem noref_one {p k : Nat} {f : Nat → Int} {ty : TypeId} : ∀ i, i < [p].length → refsL (([⟨[.arr .i64 k f], ty⟩] : List Blk).getD i default).items = []
  | 0, _ => by simp [refs]
  | i + 1, h => by simp at h
theorem laid_two {env : Mem} {p q o n c o' n' c' k k' : Nat} {f g : Nat → Int} {ty ty' : TypeId} (hp : env p = some ⟨[.arr .i64 k f], ty⟩) (hq : env q = some ⟨[.arr .i64 k' g], ty'⟩) (hne : p ≠ q) :
    Laid env [.slice p o n c, .slice q o' n' c'] [.slice 0 o n c, .slice 1 o' n' c'] [p, q] [⟨[.arr .i64 k f], ty⟩, ⟨[.arr .i64 k' g], ty'⟩] := by
  refine ⟨by simp [renL, AV.ren], rfl, by simp [hne], by simp [refs, refsL], ?_, ?_⟩
  · intro i hi
    have : i = 0 ∨ i = 1 := by simp at hi; omega
    rcases this with rfl | rfl
    · simp [hp, renL, AV.ren]
    · simp [hq, renL, AV.ren]
  · intro i hi
    have : i = 0 ∨ i = 1 := by simp at hi; omega
    rcases this with rfl | rfl <;> simp [refs]
theorem laid_one {env : Mem} {p o n c k : Nat} {f : Nat → Int} {ty : TypeId} (hp : env p = some ⟨[.arr .i64 k f], ty⟩) :
    Laid env [.slice p o n c] [.slice 0 o n c] [p] [⟨[.arr .i64 k f], ty⟩] := by
  refine ⟨by simp [renL, AV.ren], rfl, by simp, by simp [refs, refsL], ?_, ?_⟩
  · intro i hi
    have : i = 0 := by simp at hi; omega
    subst this
    simp [hp, renL, AV.ren]
  · intro i hi
    have : i = 0 := by simp at hi; omega
    subst this
    simp [refs]
noncomputable def longS : Sum := fun args _ nxt => match args with
  | [.arr .u64 8 f, .int .i64 n] => if R8 f ∧ 0 ≤ n ∧ n ≤ 1040 then .val (.slice nxt 0 n.toNat n.toNat) [] [BL n.toNat (sval f)] else .fail
  | _ => .fail
noncomputable def longP (f : Nat → Int) (n : Nat) (t6 : Option AV) : List (Option AV) := [some (.arr .u64 8 f), some (.int .i64 n), some (.ptr 0 0), none, none, some (.slice 1 0 n n), t6, none, none, none, none, none, none, none, none, none, none, none, none, none, none, none, none, none, none, none, none, none, none, none, none]
noncomputable def longLoop : Code := match Tryz.f182.body with | some (.seq _ (.seq _ (.seq (.seq _ (.block _ (.loop c))) _))) => c | _ => .skip
noncomputable def longM (f : Nat → Int) (n : Nat) (g : Nat → Int) : List Blk := [⟨[.arr .u64 8 f], 76⟩, ⟨[.arr .i64 n g], 3⟩]
def cutF (b : Nat → Int) (i : Nat) (j : Nat) : Int := if j < i then b j else 0
theorem cutF_upd {b : Nat → Int} {i : Nat} {v : Int} (h : v = b i) : upd (cutF b i) i v = cutF b (i + 1) := by
  funext j
  unfold upd cutF
  by_cases h1 : j = i
  · subst h1; simp [h]
  · by_cases h2 : j < i
    · rw [if_neg h1, if_pos h2, if_pos (by omega)]
    · rw [if_neg h1, if_neg h2, if_neg (by omega)]
theorem cutF_zero (b : Nat → Int) : cutF b 0 = fun _ => 0 := by funext j; simp [cutF]
theorem cutF_bitN (n : Nat) (z : Int) : cutF (bitN n z) n = bitN n z := by
  funext j; unfold cutF bitN; by_cases h : j < n <;> simp [h]
set_option maxHeartbeats 4000000 in
theorem long_loop {f : Nat → Int} (hf : R8 f) {n : Nat} (hn : n ≤ 1040) {Q : Ex → St → Prop}
    (hQ : ∀ (ts : List AV), Fits (longP f n none) ts → Q (.exit 0) ⟨ts, longM f n (bitN n (sval f)), []⟩)
    {ts : List AV} (h0 : Fits (longP f n (some (.int .i64 0))) ts) :
    Good (loopA (exec Tryz.T (stOf []) (fun _ => none) 1042 longLoop) 1042 ⟨ts, longM f n (fun _ => 0), []⟩) Q := by
  refine loop_rule (fun k s => ∃ i : Nat, i + k = n ∧ Fits (longP f n (some (.int .i64 i))) s.ts ∧ s.m = longM f n (cutF (bitN n (sval f)) i) ∧ s.df = []) ?_ 1042 n _ (by omega)
    ⟨0, by omega, h0, by rw [cutF_zero], rfl⟩
  rintro k ⟨ts, mm, df⟩ ⟨i, hik, hfit, hm', hd⟩
  simp only at hfit hm' hd
  subst hm' hd
  obtain ⟨l, rfl⟩ := fits_of hfit 0
  by_cases hi : i < n
  · have hi1 : (i : Int) < n := by omega
    have hi2 : (0 : Int) ≤ i := by omega
    obtain ⟨m, hm⟩ : ∃ m : Nat, m = min i 511 := ⟨_, rfl⟩
    have hmin : (if (511 : Int) < i then 511 else (i : Int)) = m := by split <;> omega
    obtain ⟨q, hq⟩ : ∃ q, q = m / 64 := ⟨_, rfl⟩
    obtain ⟨r, hr⟩ : ∃ r, r = m % 64 := ⟨_, rfl⟩
    have td : (m : Int).tdiv 64 = q := by rw [Int.tdiv_eq_ediv_of_nonneg (by omega)]; omega
    have tm : (m : Int).tmod 64 = r := by rw [Int.tmod_eq_emod_of_nonneg (by omega)]; omega
    have w0 : IntKind.i64.wrap (q : Int) = q := wrap_i64_in (by omega) (by omega)
    have w3 : IntKind.i64.wrap ((i : Int) + 1) = i + 1 := wrap_i64_in (by omega) (by omega)
    have q8 : q < 8 := by omega
    have q8' : (q : Int) < 8 := by omega
    have hrn : ¬ (r : Int) < 0 := by omega
    have fq := hf q q8
    have hs : shrA .u64 (f q) r = f q / 2 ^ r := by
      simp only [shrA, IntKind.bits]
      rw [show min r 64 = r from by omega, Int.fdiv_eq_ediv_of_nonneg _ (Int.le_of_lt (pow_2_pos r))]
    have hb : f q / 2 ^ r % 2 = bitN n (sval f) i := by
      rw [hq, hr, limb_bit hf (by omega)]
      unfold bitN
      rw [if_pos hi]
      by_cases h5 : i ≤ 511
      · rw [show m = i from by omega]
      · rw [show m = 511 from by omega]; exact (sign_bit (sval_range hf) (by omega)).symm
    have ht : (f q / 2 ^ r).tmod 2 = bitN n (sval f) i := by
      rw [Int.tmod_eq_emod_of_nonneg (Int.ediv_nonneg fq.1 (Int.le_of_lt (pow_2_pos r))), hb]
    obtain ⟨b, hbb⟩ : ∃ b, b = bitN n (sval f) i := ⟨_, rfl⟩
    have b01 := Bits_bitN n n (sval f) i hi
    rw [← hbb] at ht b01
    have wu : IntKind.u64.wrap b = b := wrap_u64_in (by omega) (by omega)
    have wi : IntKind.i64.wrap b = b := wrap_i64_in (by omega) (by omega)
    simp [longLoop, longP, longM, Tryz.f182, hi, hi1, hi2, hmin, td, tm, w0, w3, q8, q8', hrn, hs, ht, wi]
    exact ⟨k - 1, by omega, i + 1, by omega, by omega, cutF_upd hbb⟩
  · have : i = n := by omega
    subst this
    have hi1 : ¬ (i : Int) < i := by omega
    simp [longLoop, longP, longM, Tryz.f182]
    have hQ' := hQ
    simp only [longM] at hQ'
    rw [cutF_bitN]
    refine hQ' _ ?_
    simp [longP]
theorem long_ok : SumOk Tryz.prog 182 longS := by
  refine sum_mem (L := fun _ => none) (n := 1042) (S := stOf []) drawS Tryz.T_ok (stOf_ok (by simp)) Tryz.func182 rfl (by kernel_rfl) (by kernel_rfl) ?_
  intro args env nxt h
  unfold longS at h ⊢
  split at h
  · rename_i f n
    split at h
    · rename_i hc
      obtain ⟨hf, hn0, hn⟩ := hc
      obtain ⟨m, rfl⟩ := Int.eq_ofNat_of_zero_le hn0
      refine ⟨[.arr .u64 8 f, .int .i64 m], [], [], ⟨rfl, rfl, by simp, by simp, by simp, by simp⟩, ?_⟩
      have h1 : (m : Int) ≤ 68719476736 := by omega
      simp [-loopA_succ, Tryz.f182, h1]
      simp only [good_bind, good_unblock]
      refine long_loop hf (n := m) (by omega) (fun ts hfit => ?_) ?_
      · obtain ⟨l, rfl⟩ := fits_of hfit 0
        simp [longP, longM, hf, hn]
        exact ⟨[1], none, told_new (by simp) rfl (by simp)⟩
      · simp [longP]
    · simp at h
  · simp at h
end Go.X
end

section
namespace Go.X
open Go.Proofs
attribute [local irreducible] Good
noncomputable def rplusS : Sum := fun args env nxt => match args with
  | [.slice p 0 n _, .slice q 0 n' _] => match env p, env q with
    | some ⟨[.arr .i64 k f], _⟩, some ⟨[.arr .i64 k' g], _⟩ => open Classical in if p ≠ q ∧ n = n' ∧ n ≤ k ∧ n ≤ k' ∧ n ≤ 1040 ∧ Bits f n ∧ Bits g n then .val (.slice nxt 0 n n) [] [BL n (bval f n + bval g n)] else .fail
    | _, _ => .fail
  | _ => .fail
noncomputable def rplusP (n c c' : Nat) (t6 t7 : Option AV) : List (Option AV) := [some (.slice 0 0 n c), some (.slice 1 0 n c'), none, none, none, some (.slice 2 0 n n), t6, t7, none, none, none, none, none, none, none, none, none, none, none, none, none, none, none, none, none, none, none, none, none, none, none, none, none, none, none, none, none]
noncomputable def rplusLoop : Code := match Tryz.f147.body with | some (.seq _ (.seq _ (.seq _ (.seq (.seq _ (.block _ (.loop c))) _)))) => c | _ => .skip
noncomputable def rplusM (k k' : Nat) (f g : Nat → Int) (ty ty' : TypeId) (n : Nat) (l : Nat → Int) : List Blk := [⟨[.arr .i64 k f], ty⟩, ⟨[.arr .i64 k' g], ty'⟩, ⟨[.arr .i64 n l], 3⟩]
theorem carry_bound {f g : Nat → Int} {n i : Nat} (hf : Bits f n) (hg : Bits g n) (hi : i ≤ n) : 0 ≤ (bval f i + bval g i) / 2 ^ i ∧ (bval f i + bval g i) / 2 ^ i ≤ 1 := by
  have h1 := bval_bound (hf.less hi); have h2 := bval_bound (hg.less hi)
  have hp := pow_2_pos i
  have h3 := Int.ediv_nonneg (a := bval f i + bval g i) (by omega) (Int.le_of_lt hp)
  have h4 : (bval f i + bval g i) / 2 ^ i < 2 := Int.ediv_lt_of_lt_mul hp (by omega)
  omega
set_option maxHeartbeats 4000000 in
theorem rplus_loop {f g : Nat → Int} {n c c' k k' : Nat} {ty ty' : TypeId} (hn : n ≤ 1040) (hk : n ≤ k) (hk' : n ≤ k') (hf : Bits f n) (hg : Bits g n) {Q : Ex → St → Prop}
    (hQ : ∀ (ts : List AV), Fits (rplusP n c c' none none) ts → Q (.exit 0) ⟨ts, rplusM k k' f g ty ty' n (bitN n (bval f n + bval g n)), []⟩)
    {ts : List AV} (h0 : Fits (rplusP n c c' (some (.int .i64 0)) (some (.int .i64 0))) ts) :
    Good (loopA (exec Tryz.T (stOf []) (fun _ => none) 1042 rplusLoop) 1042 ⟨ts, rplusM k k' f g ty ty' n (fun _ => 0), []⟩) Q := by
  refine loop_rule (fun d s => ∃ i : Nat, i + d = n ∧ Fits (rplusP n c c' (some (.int .i64 ((bval f i + bval g i) / 2 ^ i))) (some (.int .i64 i))) s.ts ∧ s.m = rplusM k k' f g ty ty' n (cutF (bitN n (bval f n + bval g n)) i) ∧ s.df = []) ?_ 1042 n _ (by omega)
    ⟨0, by omega, by simpa [bval] using h0, by rw [cutF_zero], rfl⟩
  rintro d ⟨ts, mm, df⟩ ⟨i, hid, hfit, hm', hd⟩
  simp only at hfit hm' hd
  subst hm' hd
  obtain ⟨l, rfl⟩ := fits_of hfit 0
  by_cases hi : i < n
  · have hi1 : (i : Int) < n := by omega
    have hi2 : (0 : Int) ≤ i := by omega
    have hik : i < k := by omega
    have hik' : i < k' := by omega
    have w3 : IntKind.i64.wrap ((i : Int) + 1) = i + 1 := wrap_i64_in (by omega) (by omega)
    obtain ⟨b1, b2⟩ := add_bits hf hg hi
    obtain ⟨c1, c2⟩ := carry_bound hf hg (Nat.le_of_lt hi)
    have f1 := hf i hi; have g1 := hg i hi
    obtain ⟨x, hx⟩ : ∃ x, x = (bval f i + bval g i) / 2 ^ i := ⟨_, rfl⟩
    rw [← hx] at b1 b2 c1 c2
    have w1 : IntKind.i64.wrap (f i + g i) = f i + g i := wrap_i64_in (by omega) (by omega)
    have w2 : IntKind.i64.wrap (f i + g i + x) = f i + g i + x := wrap_i64_in (by omega) (by omega)
    have tm : (f i + g i + x).tmod 2 = bitN n (bval f n + bval g n) i := by rw [Int.tmod_eq_emod_of_nonneg (by omega), b1]
    have td : (f i + g i + x).tdiv 2 = (bval f (i + 1) + bval g (i + 1)) / 2 ^ (i + 1) := by rw [Int.tdiv_eq_ediv_of_nonneg (by omega), b2]
    obtain ⟨b, hb⟩ : ∃ b, b = bitN n (bval f n + bval g n) i := ⟨_, rfl⟩
    have b01 := Bits_bitN n n (bval f n + bval g n) i hi
    rw [← hb] at b01 tm
    obtain ⟨c3, c4⟩ := carry_bound hf hg (show i + 1 ≤ n by omega)
    obtain ⟨y, hy⟩ : ∃ y, y = (bval f (i + 1) + bval g (i + 1)) / 2 ^ (i + 1) := ⟨_, rfl⟩
    rw [← hy] at td c3 c4
    have w4 : IntKind.i64.wrap b = b := wrap_i64_in (by omega) (by omega)
    have w5 : IntKind.i64.wrap y = y := wrap_i64_in (by omega) (by omega)
    simp [rplusLoop, rplusP, rplusM, Tryz.f147, hi, hi1, hi2, hik, hik', ← hx, w1, w2, w3, w5, tm, td]
    exact ⟨d - 1, by omega, i + 1, by omega, ⟨hy, by omega⟩, cutF_upd hb⟩
  · have : i = n := by omega
    subst this
    simp [rplusLoop, rplusP, rplusM, Tryz.f147]
    have hQ' := hQ
    simp only [rplusM] at hQ'
    rw [cutF_bitN]
    refine hQ' _ ?_
    simp [rplusP]
theorem rplus_ok : SumOk Tryz.prog 147 rplusS := by
  refine sum_mem (L := fun _ => none) (n := 1042) (S := stOf []) drawS Tryz.T_ok (stOf_ok (by simp)) Tryz.func147 rfl (by kernel_rfl) (by kernel_rfl) ?_
  intro args env nxt h
  unfold rplusS at h ⊢
  split at h
  · rename_i p n c q n' c'
    split at h
    · rename_i k f ty k' g ty' e1 e2
      split at h
      · rename_i hc
        obtain ⟨hne, rfl, hk, hk', hn, hf, hg⟩ := hc
        refine ⟨_, _, _, laid_two e1 e2 hne, ?_⟩
        have h1 : (n : Int) ≤ 68719476736 := by omega
        simp [-loopA_succ, Tryz.f147, h1]
        simp only [good_bind, good_unblock]
        refine rplus_loop (c := c) (c' := c') hn hk hk' hf hg (fun ts hfit => ?_) ?_
        · obtain ⟨l, rfl⟩ := fits_of hfit 0
          simp [rplusP, rplusM, hf, hg, hk, hk', hne, hn]
          exact ⟨[2], none, told_new (by simp) rfl old_two noref_two⟩
        · simp [rplusP]
      · simp at h
    · simp at h
  · simp at h
noncomputable def rminusS : Sum := fun args env nxt => match args with
  | [.slice p 0 n _] => match env p with
    | some ⟨[.arr .i64 k f], _⟩ => open Classical in if n ≤ k ∧ n ≤ 1040 ∧ Bits f n then .val (.slice nxt 0 n n) [] [BL n (- bval f n)] else .fail
    | _ => .fail
  | _ => .fail
noncomputable def rminusP (n c : Nat) (t4 t5 : Option AV) : List (Option AV) := [some (.slice 0 0 n c), none, none, some (.slice 1 0 n n), t4, t5, none, none, none, none, none, none, none, none, none, none, none, none, none, none, none, none, none, none, none, none, none, none, none, none, none]
noncomputable def rminusLoop : Code := match Tryz.f148.body with | some (.seq _ (.seq _ (.seq _ (.seq (.seq _ (.block _ (.loop c))) _)))) => c | _ => .skip
noncomputable def rminusM (k : Nat) (f : Nat → Int) (ty : TypeId) (n : Nat) (l : Nat → Int) : List Blk := [⟨[.arr .i64 k f], ty⟩, ⟨[.arr .i64 n l], 3⟩]
theorem neg_step {f : Nat → Int} {n : Nat} (hf : Bits f n) {i : Nat} (hi : i < n) :
    (1 - f i + (2 ^ i - bval f i) / 2 ^ i) % 2 = bitN n (- bval f n) i ∧ (1 - f i + (2 ^ i - bval f i) / 2 ^ i) / 2 = (2 ^ (i + 1) - bval f (i + 1)) / 2 ^ (i + 1) ∧ 0 ≤ (2 ^ i - bval f i) / 2 ^ i ∧ (2 ^ i - bval f i) / 2 ^ i ≤ 1 := by
  have hb := bval_bound (hf.less (Nat.le_of_lt hi))
  have hp := pow_2_pos i
  have e : (2 ^ (i + 1) - bval f (i + 1)) / 2 ^ i = 1 - f i + (2 ^ i - bval f i) / 2 ^ i := by
    simp only [bval, Int.pow_succ]
    rw [show (2 : Int) ^ i * 2 - (bval f i + f i * 2 ^ i) = (2 ^ i - bval f i) + (1 - f i) * 2 ^ i from by grind, Int.add_mul_ediv_right _ _ (Int.ne_of_gt hp)]
    omega
  refine ⟨?_, ?_, ?_, ?_⟩
  · rw [← e]
    unfold bitN
    rw [if_pos hi]
    have up : bval f n % 2 ^ (i + 1) = bval f (i + 1) := by
      have h2 : bval f (i + 1) = bval (bitN n (bval f n)) (i + 1) := bval_congr fun j hj => (bitN_bval hf (by omega)).symm
      rw [h2, bval_bits _ (by omega)]
    rw [← bit_mod (- bval f n) (show i < i + 1 by omega), ← bit_mod (2 ^ (i + 1) - bval f (i + 1)) (show i < i + 1 by omega)]
    have h1 := Int.mul_ediv_add_emod (bval f n) (2 ^ (i + 1))
    rw [up] at h1
    have h2 : - bval f n = (2 ^ (i + 1) - bval f (i + 1)) + 2 ^ (i + 1) * (- (bval f n / 2 ^ (i + 1)) - 1) := by
      conv => lhs; rw [← h1]
      grind
    rw [h2, Int.add_mul_emod_self_left]
  · rw [← e, Int.ediv_ediv_of_nonneg (Int.le_of_lt hp), ← Int.pow_succ]
  · exact Int.ediv_nonneg (by omega) (Int.le_of_lt hp)
  · have : (2 ^ i - bval f i) / 2 ^ i < 2 := Int.ediv_lt_of_lt_mul hp (by omega)
    omega
set_option maxHeartbeats 4000000 in
theorem rminus_loop {f : Nat → Int} {n c k : Nat} {ty : TypeId} (hn : n ≤ 1040) (hk : n ≤ k) (hf : Bits f n) {Q : Ex → St → Prop}
    (hQ : ∀ (ts : List AV), Fits (rminusP n c none none) ts → Q (.exit 0) ⟨ts, rminusM k f ty n (bitN n (- bval f n)), []⟩)
    {ts : List AV} (h0 : Fits (rminusP n c (some (.int .i64 1)) (some (.int .i64 0))) ts) :
    Good (loopA (exec Tryz.T (stOf []) (fun _ => none) 1042 rminusLoop) 1042 ⟨ts, rminusM k f ty n (fun _ => 0), []⟩) Q := by
  refine loop_rule (fun d s => ∃ i : Nat, i + d = n ∧ Fits (rminusP n c (some (.int .i64 ((2 ^ i - bval f i) / 2 ^ i))) (some (.int .i64 i))) s.ts ∧ s.m = rminusM k f ty n (cutF (bitN n (- bval f n)) i) ∧ s.df = []) ?_ 1042 n _ (by omega)
    ⟨0, by omega, by simpa [bval] using h0, by rw [cutF_zero], rfl⟩
  rintro d ⟨ts, mm, df⟩ ⟨i, hid, hfit, hm', hd⟩
  simp only at hfit hm' hd
  subst hm' hd
  obtain ⟨l, rfl⟩ := fits_of hfit 0
  by_cases hi : i < n
  · have hi1 : (i : Int) < n := by omega
    have hi2 : (0 : Int) ≤ i := by omega
    have hik : i < k := by omega
    have w3 : IntKind.i64.wrap ((i : Int) + 1) = i + 1 := wrap_i64_in (by omega) (by omega)
    obtain ⟨b1, b2, c1, c2⟩ := neg_step hf hi
    have f1 := hf i hi
    obtain ⟨x, hx⟩ : ∃ x, x = (2 ^ i - bval f i) / 2 ^ i := ⟨_, rfl⟩
    rw [← hx] at b1 b2 c1 c2
    have w1 : IntKind.i64.wrap (1 - f i) = 1 - f i := wrap_i64_in (by omega) (by omega)
    have w2 : IntKind.i64.wrap (1 - f i + x) = 1 - f i + x := wrap_i64_in (by omega) (by omega)
    have tm : (1 - f i + x).tmod 2 = bitN n (- bval f n) i := by rw [Int.tmod_eq_emod_of_nonneg (by omega), b1]
    obtain ⟨y, hy⟩ : ∃ y, y = (2 ^ (i + 1) - bval f (i + 1)) / 2 ^ (i + 1) := ⟨_, rfl⟩
    rw [← hy] at b2
    have td : (1 - f i + x).tdiv 2 = y := by rw [Int.tdiv_eq_ediv_of_nonneg (by omega), b2]
    obtain ⟨b, hb⟩ : ∃ b, b = bitN n (- bval f n) i := ⟨_, rfl⟩
    have b01 := Bits_bitN n n (- bval f n) i hi
    rw [← hb] at b01 tm
    have w4 : IntKind.i64.wrap b = b := wrap_i64_in (by omega) (by omega)
    have w5 : IntKind.i64.wrap y = y := wrap_i64_in (by omega) (by omega)
    simp [rminusLoop, rminusP, rminusM, Tryz.f148, hi, hi1, hi2, hik, ← hx, w1, w2, w3, w5, tm, td]
    exact ⟨d - 1, by omega, i + 1, by omega, ⟨hy, by omega⟩, cutF_upd hb⟩
  · have : i = n := by omega
    subst this
    simp [rminusLoop, rminusP, rminusM, Tryz.f148]
    have hQ' := hQ
    simp only [rminusM] at hQ'
    rw [cutF_bitN]
    refine hQ' _ ?_
    simp [rminusP]
theorem rminus_ok : SumOk Tryz.prog 148 rminusS := by
  refine sum_mem (L := fun _ => none) (n := 1042) (S := stOf []) drawS Tryz.T_ok (stOf_ok (by simp)) Tryz.func148 rfl (by kernel_rfl) (by kernel_rfl) ?_
  intro args env nxt h
  unfold rminusS at h ⊢
  split at h
  · rename_i p n c
    split at h
    · rename_i k f ty e1
      split at h
      · rename_i hc
        obtain ⟨hk, hn, hf⟩ := hc
        refine ⟨_, _, _, laid_one e1, ?_⟩
        have h1 : (n : Int) ≤ 68719476736 := by omega
        simp [-loopA_succ, Tryz.f148, h1]
        simp only [good_bind, good_unblock]
        refine rminus_loop (c := c) hn hk hf (fun ts hfit => ?_) ?_
        · obtain ⟨l, rfl⟩ := fits_of hfit 0
          simp [rminusP, rminusM, hf, hk, hn]
          exact ⟨[1], none, told_new (by simp) rfl old_one noref_one⟩
        · simp [rminusP]
      · simp at h
    · simp at h
  · simp at h
end Go.X
end

section
namespace Go.X
open Go.Proofs
attribute [local irreducible] Good
def sgnB (f : Nat → Int) (n : Nat) : Int := if f (n - 1) = 1 then bval f n - 2 ^ n else bval f n
def offB (f : Nat → Int) (o : Nat) (i : Nat) : Int := f (o + i)
noncomputable def rofS : Sum := fun args env _ => match args with
  | [.slice p o n _] => match env p with
    | some ⟨[.arr .i64 k f], _⟩ => open Classical in if o + n ≤ k ∧ 512 ≤ n ∧ n ≤ 1060 ∧ Bits (offB f o) n then .val (fitV (sgnB (offB f o) n)) [] [] else .fail
    | _ => .fail
  | _ => .fail
noncomputable def rofP (o n c : Nat) (t5 t6 : Option AV) : List (Option AV) := [some (.slice 0 o n c), none, some (.ptr 1 0), some (.bool false), some (.ptr 2 0), t5, t6, none, none, none, none, none, none, none, none, none, none, none, none, none, none, none, none, none, none, none, none, none, none, none, none, none, none, none, none, none, none, none, none, none, none, none, none]
noncomputable def rofLoop1 : Code := match Tryz.f149.body with | some (.seq _ (.seq _ (.seq (.seq _ (.block _ (.loop c))) _))) => c | _ => .skip
noncomputable def rofLoop2 : Code := match Tryz.f149.body with | some (.seq _ (.seq _ (.seq _ (.seq (.seq _ (.block _ (.loop c))) _)))) => c | _ => .skip
noncomputable def rofM (k : Nat) (f : Nat → Int) (ty : TypeId) (a : Nat → Int) : List Blk := [⟨[.arr .i64 k f], ty⟩, ⟨[.arr .u64 8 fun _ => 0], 76⟩, ⟨[.arr .u64 8 a], 76⟩]
def rofL (i : Nat) : Option DM := if i = 10 then some (.quiet 16) else none
theorem pow_split {m : Nat} (h : 512 ≤ m) : (2 : Int) ^ m = 2 * K5 * 2 ^ (m - 512) := by
  obtain ⟨d, rfl⟩ : ∃ d, m = 512 + d := ⟨m - 512, by omega⟩
  rw [Int.pow_add, ← K5_pow, Nat.add_sub_cancel_left]
theorem bval_succ (f : Nat → Int) (n : Nat) : bval f (n + 1) = bval f n + f n * 2 ^ n := rfl
theorem rof_fits {F : Nat → Int} {n : Nat} (hF : Bits F n) (hn : 512 ≤ n) : (InW (sgnB F n) ↔ ∀ i, 511 ≤ i → i < n → F i = F 511) ∧ (InW (sgnB F n) → ∃ k, bval F 512 = sgnB F n + 2 * K5 * k) := by
  have split : ∀ m, 512 ≤ m → m ≤ n → ∃ h : Int, 0 ≤ h ∧ h < 2 ^ (m - 512) ∧ bval F m = bval F 512 + 2 * K5 * h ∧ ((∀ i, 512 ≤ i → i < m → F i = 0) → h = 0) ∧ ((∀ i, 512 ≤ i → i < m → F i = 1) → h = 2 ^ (m - 512) - 1) ∧ (h = 0 → ∀ i, 512 ≤ i → i < m → F i = 0) ∧ (h = 2 ^ (m - 512) - 1 → ∀ i, 512 ≤ i → i < m → F i = 1) := by
    intro m
    induction m with
    | zero => intro h; omega
    | succ m ih =>
      intro h1 h2
      by_cases hm : m + 1 = 512
      · have e0 : m + 1 - 512 = 0 := by omega
        have e1 : bval F (m + 1) = bval F 512 := congrArg (bval F) hm
        exact ⟨0, by omega, by rw [e0]; decide, by rw [e1]; omega, fun _ => rfl, fun _ => by rw [e0]; decide, fun _ i h3 h4 => by omega, fun _ i h3 h4 => by omega⟩
      · obtain ⟨h, a1, a2, a3, a4, a5, a6, a7⟩ := ih (by omega) (by omega)
        have hp := pow_2_pos (m - 512)
        have e : m + 1 - 512 = (m - 512) + 1 := by omega
        have eK : (2 : Int) ^ m = 2 * K5 * 2 ^ (m - 512) := pow_split (by omega)
        have hb := hF m (by omega)
        refine ⟨h + F m * 2 ^ (m - 512), ?_, ?_, ?_, ?_, ?_, ?_, ?_⟩
        · rcases hb with e | e <;> rw [e] <;> omega
        · rw [e, Int.pow_succ]; rcases hb with e | e <;> rw [e] <;> omega
        · show bval F m + F m * 2 ^ m = _
          rw [a3, eK]; grind
        · intro hz
          rw [a4 fun i h3 h4 => hz i h3 (by omega), hz m (by omega) (by omega)]; omega
        · intro hz
          rw [a5 fun i h3 h4 => hz i h3 (by omega), hz m (by omega) (by omega), e, Int.pow_succ]; omega
        · intro hz i h3 h4
          have h5 : F m = 0 ∧ h = 0 := by rcases hb with e | e <;> rw [e] at hz ⊢ <;> omega
          by_cases hi : i = m
          · rw [hi]; exact h5.1
          · exact a6 h5.2 i h3 (by omega)
        · intro hz i h3 h4
          rw [e, Int.pow_succ] at hz
          have h5 : F m = 1 ∧ h = 2 ^ (m - 512) - 1 := by rcases hb with e | e <;> rw [e] at hz ⊢ <;> omega
          by_cases hi : i = m
          · rw [hi]; exact h5.1
          · exact a7 h5.2 i h3 (by omega)
  obtain ⟨h, a1, a2, a3, a4, a5, a6, a7⟩ := split n hn (Nat.le_refl _)
  have low := bval_bound (hF.less hn)
  have lowS : bval F 512 = bval F 511 + F 511 * K5 := by
    rw [← pow_2_511]; exact bval_succ F 511
  have low1 := bval_bound (hF.less (show 511 ≤ n by omega))
  rw [pow_2_511] at low1
  have h11 := hF 511 (by omega)
  have hK := K5_pos
  have hp := pow_2_pos (n - 512)
  have eK : (2 : Int) ^ n = 2 * K5 * 2 ^ (n - 512) := pow_split (by omega)
  have top := hF (n - 1) (by omega)
  obtain ⟨s, hs⟩ : ∃ s, sgnB F n = bval F 512 + 2 * K5 * s ∧ ((F (n - 1) = 0 ∧ s = h) ∨ (F (n - 1) = 1 ∧ s = h - 2 ^ (n - 512))) := by
    rcases top with t | t
    · exact ⟨h, by unfold sgnB; rw [if_neg (by omega), a3], .inl ⟨t, rfl⟩⟩
    · refine ⟨h - 2 ^ (n - 512), ?_, .inr ⟨t, rfl⟩⟩
      unfold sgnB; rw [if_pos t, a3, eK]; grind
  obtain ⟨s1, s2⟩ := hs
  have small : InW (sgnB F n) → (F 511 = 0 → s = 0) ∧ (F 511 = 1 → s = -1) := by
    intro hi
    unfold InW at hi
    rw [s1, lowS] at hi
    constructor <;> intro h0 <;> rw [h0] at hi
    · rcases Int.lt_trichotomy s 0 with h | h | h
      · have := Int.mul_le_mul_of_nonneg_left (show s ≤ -1 by omega) (show (0 : Int) ≤ 2 * K5 by omega); omega
      · exact h
      · have := Int.mul_le_mul_of_nonneg_left (show 1 ≤ s by omega) (show (0 : Int) ≤ 2 * K5 by omega); omega
    · rcases Int.lt_trichotomy s (-1) with h | h | h
      · have := Int.mul_le_mul_of_nonneg_left (show s ≤ -2 by omega) (show (0 : Int) ≤ 2 * K5 by omega); omega
      · exact h
      · have := Int.mul_le_mul_of_nonneg_left (show 0 ≤ s by omega) (show (0 : Int) ≤ 2 * K5 by omega); omega
  refine ⟨⟨fun hi i h1 h2 => ?_, fun hall => ?_⟩, fun hi => ⟨-s, by rw [s1]; grind⟩⟩
  · by_cases hi1 : i = 511
    · rw [hi1]
    · obtain ⟨c1, c2⟩ := small hi
      rcases h11 with e | e
      · have := c1 e
        rw [e]; exact a6 (by rcases s2 with ⟨_, h⟩ | ⟨_, h⟩ <;> omega) i (by omega) h2
      · have := c2 e
        rw [e]; exact a7 (by rcases s2 with ⟨_, h⟩ | ⟨_, h⟩ <;> omega) i (by omega) h2
  · have htop := hall (n - 1) (by omega) (by omega)
    unfold InW
    rw [s1, lowS]
    rcases h11 with e | e
    · have hz := a4 fun i h1 h2 => (hall i (by omega) h2).trans e
      have : s = 0 := by rcases s2 with ⟨_, h⟩ | ⟨h, _⟩ <;> omega
      rw [this, e]; omega
    · have hz := a5 fun i h1 h2 => (hall i (by omega) h2).trans e
      have : s = -1 := by rcases s2 with ⟨h, _⟩ | ⟨_, h⟩ <;> omega
      rw [this, e]; omega
def accF (V : Int) (i q : Nat) : Int := if 64 * q + 64 ≤ i then 0 else V / 2 ^ (max i (64 * q)) % 2 ^ (64 * q + 64 - max i (64 * q))
theorem acc_bound {V : Int} {i q : Nat} : 0 ≤ accF V i q ∧ accF V i q < 18446744073709551616 := by
  unfold accF
  split
  · omega
  · have hp := pow_2_pos (64 * q + 64 - max i (64 * q))
    have h1 := Int.emod_nonneg (V / 2 ^ (max i (64 * q))) (Int.ne_of_gt hp)
    have h2 := Int.emod_lt_of_pos (V / 2 ^ (max i (64 * q))) hp
    have h3 : (2 : Int) ^ (64 * q + 64 - max i (64 * q)) ≤ 2 ^ 64 := pow_le (by omega)
    have h4 : (2 : Int) ^ 64 = 18446744073709551616 := rfl
    omega
theorem acc_step {V : Int} {i : Nat} : accF V (i + 1) (i / 64) * 2 + V / 2 ^ i % 2 = accF V i (i / 64) ∧ ∀ q, q ≠ i / 64 → accF V (i + 1) q = accF V i q := by
  constructor
  · unfold accF
    rw [if_neg (show ¬ 64 * (i / 64) + 64 ≤ i by omega), show max i (64 * (i / 64)) = i from by omega]
    have e : V / 2 ^ (i + 1) = V / 2 ^ i / 2 := by rw [Int.pow_succ, ← Int.ediv_ediv_of_nonneg (Int.le_of_lt (pow_2_pos i))]
    by_cases h : 64 * (i / 64) + 64 ≤ i + 1
    · rw [if_pos h, show 64 * (i / 64) + 64 - i = 1 from by omega]; omega
    · rw [if_neg h, show max (i + 1) (64 * (i / 64)) = i + 1 from by omega, e, show 64 * (i / 64) + 64 - i = (64 * (i / 64) + 64 - (i + 1)) + 1 from by omega]
      have hp := pow_2_pos (64 * (i / 64) + 64 - (i + 1))
      generalize V / 2 ^ i = y
      generalize (64 * (i / 64) + 64 - (i + 1)) = m at *
      clear e h
      rw [Int.pow_succ]
      have h1 := Int.mul_ediv_add_emod (y / 2) (2 ^ m)
      have h2 := Int.emod_nonneg (y / 2) (Int.ne_of_gt hp)
      have h3 := Int.emod_lt_of_pos (y / 2) hp
      have h4 : y = (y / 2 % 2 ^ m * 2 + y % 2) + 2 ^ m * 2 * (y / 2 / 2 ^ m) := by
        have h5 : y = 2 * (y / 2) + y % 2 := by omega
        have h6 : 2 * (y / 2) = 2 ^ m * 2 * (y / 2 / 2 ^ m) + y / 2 % 2 ^ m * 2 := by
          conv => lhs; rw [← h1]
          grind
        omega
      have h7 := Int.add_mul_emod_self_left (y / 2 % 2 ^ m * 2 + y % 2) (2 ^ m * 2) (y / 2 / 2 ^ m)
      have h8 := Int.emod_eq_of_lt (show 0 ≤ y / 2 % 2 ^ m * 2 + y % 2 by omega) (show y / 2 % 2 ^ m * 2 + y % 2 < 2 ^ m * 2 by omega)
      rw [← h4, h8] at h7
      exact h7.symm
  · intro q hq
    unfold accF
    by_cases h : 64 * q + 64 ≤ i
    · rw [if_pos h, if_pos (by omega)]
    · rw [if_neg h, if_neg (by omega), show max (i + 1) (64 * q) = max i (64 * q) from by omega]
theorem acc_all (V : Int) (q : Nat) : accF V 0 q = limb V q := by
  unfold accF
  rw [if_neg (by omega), show max 0 (64 * q) = 64 * q from by omega, show 64 * q + 64 - 64 * q = 64 from by omega, limb_eq, Int.pow_mul]
  rfl
theorem acc_none {V : Int} (q : Nat) (hq : q < 8) : accF V 512 q = 0 := by
  unfold accF; rw [if_pos (by omega)]
end Go.X
end

section
namespace Go.X
open Go.Proofs
attribute [local irreducible] Good
set_option maxHeartbeats 4000000 in
theorem rof_loop1 {f : Nat → Int} {o n c k : Nat} {ty : TypeId} (hk : o + n ≤ k) (h512 : 512 ≤ n) (hn : n ≤ 1060) (hF : Bits (offB f o) n) {Q : Ex → St → Prop}
    (hQ : (∀ i, 511 ≤ i → i < n → offB f o i = offB f o 511) → ∀ (ts : List AV), Fits (rofP o n c none none) ts → Q (.exit 0) ⟨ts, rofM k f ty (fun _ => 0), []⟩)
    (hR : ¬ (∀ i, 511 ≤ i → i < n → offB f o i = offB f o 511) → ∀ (ts : List AV), Fits (rofP o n c none none) ts → Q .ret ⟨ts, rofM k f ty (fun _ => 0), []⟩)
    {ts : List AV} (h0 : Fits (rofP o n c (some (.int .i64 511)) none) ts) :
    Good (loopA (exec Tryz.T (stOf []) rofL 1062 rofLoop1) 1062 ⟨ts, rofM k f ty (fun _ => 0), []⟩) Q := by
  refine loop_rule (fun d s => ∃ i : Nat, i + d = n ∧ 511 ≤ i ∧ (∀ j, 511 ≤ j → j < i → offB f o j = offB f o 511) ∧ Fits (rofP o n c (some (.int .i64 i)) none) s.ts ∧ s.m = rofM k f ty (fun _ => 0) ∧ s.df = []) ?_ 1062 (n - 511) _ (by omega)
    ⟨511, by omega, by omega, fun j h1 h2 => by omega, h0, rfl, rfl⟩
  rintro d ⟨ts, mm, df⟩ ⟨i, hid, hi5, hall, hfit, hm', hd⟩
  simp only at hfit hm' hd
  subst hm' hd
  obtain ⟨l, rfl⟩ := fits_of hfit 0
  by_cases hi : i < n
  · have hi1 : (i : Int) < n := by omega
    have hi2 : (0 : Int) ≤ i := by omega
    have hik : o + i < k := by omega
    have h5k : o + 511 < k := by omega
    have h5n : (511 : Int) < n := by omega
    have w3 : IntKind.i64.wrap ((i : Int) + 1) = i + 1 := wrap_i64_in (by omega) (by omega)
    by_cases he : f (o + i) = f (o + 511)
    · simp [rofLoop1, rofP, rofM, rofL, Tryz.f149, hi1, hi2, hik, h5k, h5n, w3, he]
      refine ⟨d - 1, by omega, i + 1, by omega, by omega, fun j h1 h2 => ?_, by omega⟩
      by_cases hj : j = i
      · rw [hj]; exact he
      · exact hall j h1 (by omega)
    · have hR' := hR fun h => he (h i hi5 hi)
      simp only [rofM] at hR'
      simp [rofLoop1, rofP, rofM, rofL, Tryz.f149, hi1, hi2, hik, h5k, h5n, he]
      exact hR' _ (by simp [rofP])
  · have : i = n := by omega
    subst this
    have hQ' := hQ hall
    simp only [rofM] at hQ'
    simp [rofLoop1, rofP, rofM, Tryz.f149]
    exact hQ' _ (by simp [rofP])
set_option maxHeartbeats 4000000 in
theorem rof_loop2 {f : Nat → Int} {o n c k : Nat} {ty : TypeId} (hk : o + n ≤ k) (h512 : 512 ≤ n) (hF : Bits (offB f o) n) {Q : Ex → St → Prop}
    (hQ : ∀ (ts : List AV) (a : Nat → Int), (∀ q, q < 8 → a q = limb (bval (offB f o) 512) q) → Fits (rofP o n c none none) ts → Q (.exit 2) ⟨ts, rofM k f ty a, []⟩)
    {ts : List AV} (h0 : Fits (rofP o n c none (some (.int .i64 511))) ts) :
    Good (loopA (exec Tryz.T (stOf []) rofL 1062 rofLoop2) 1062 ⟨ts, rofM k f ty (fun _ => 0), []⟩) Q := by
  refine loop_rule (fun d s => d ≤ 512 ∧ ∃ a : Nat → Int, (∀ q, q < 8 → a q = accF (bval (offB f o) 512) d q) ∧ Fits (rofP o n c none (some (.int .i64 ((d : Int) - 1)))) s.ts ∧ s.m = rofM k f ty a ∧ s.df = []) ?_ 1062 512 _ (by omega)
    ⟨Nat.le_refl _, fun _ => 0, fun q hq => (acc_none q hq).symm, by simpa using h0, rfl, rfl⟩
  rintro d ⟨ts, mm, df⟩ ⟨hd5, a, ha, hfit, hm', hd⟩
  simp only at hfit hm' hd
  subst hm' hd
  obtain ⟨l, rfl⟩ := fits_of hfit 0
  cases d with
  | zero =>
    have hQ' := hQ
    simp only [rofM] at hQ'
    simp [rofLoop2, rofP, rofM, Tryz.f149]
    exact hQ' _ a (fun q hq => by rw [ha q hq, acc_all]) (by simp [rofP])
  | succ i =>
    have e1 : ((i + 1 : Nat) : Int) - 1 = i := by omega
    have hi1 : (i : Int) < n := by omega
    have hi2 : (0 : Int) ≤ i := by omega
    have hik : o + i < k := by omega
    obtain ⟨q, hq⟩ : ∃ q, q = i / 64 := ⟨_, rfl⟩
    have q8 : q < 8 := by omega
    have q8' : (q : Int) < 8 := by omega
    have td : (i : Int).tdiv 64 = q := by rw [Int.tdiv_eq_ediv_of_nonneg (by omega)]; omega
    have w0 : IntKind.i64.wrap (q : Int) = q := wrap_i64_in (by omega) (by omega)
    have w3 : IntKind.i64.wrap ((i : Int) - 1) = i - 1 := wrap_i64_in (by omega) (by omega)
    obtain ⟨s1, s2⟩ := acc_step (V := bval (offB f o) 512) (i := i)
    rw [← hq] at s1 s2
    have hbit : bval (offB f o) 512 / 2 ^ i % 2 = f (o + i) := bval_bit (hF.less h512) (by omega)
    rw [hbit, ← ha q q8] at s1
    have b1 := acc_bound (V := bval (offB f o) 512) (i := i) (q := q)
    have b2 := acc_bound (V := bval (offB f o) 512) (i := i + 1) (q := q)
    rw [← ha q q8] at b2
    have bb : f (o + i) = 0 ∨ f (o + i) = 1 := hF i (by omega)
    have w4 : IntKind.u64.wrap (a q * 2) = a q * 2 := wrap_u64_in (by omega) (by omega)
    have w5 : IntKind.u64.wrap (f (o + i)) = f (o + i) := wrap_u64_in (by omega) (by omega)
    have w6 : IntKind.u64.wrap (a q * 2 + f (o + i)) = a q * 2 + f (o + i) := wrap_u64_in (by omega) (by omega)
    simp [rofLoop2, rofP, rofM, rofL, Tryz.f149, hi1, hi2, hik, q8, q8', td, w0, w3, w4, w5, w6]
    refine ⟨i, by omega, by omega, fun p hp => ?_, rfl⟩
    unfold upd
    by_cases hpq : p = q
    · rw [if_pos hpq, hpq]; exact s1
    · rw [if_neg hpq, ha p hp]; exact s2 p hpq
theorem rof_ok : SumOk Tryz.prog 149 rofS := by
  refine sum_read (L := rofL) (n := 1062) (S := stOf []) drawS Tryz.T_ok (stOf_ok (by simp)) Tryz.func149 rfl (by kernel_rfl) (by kernel_rfl) ?_
  intro args env nxt h
  unfold rofS at h ⊢
  split at h
  · rename_i p o n c
    split at h
    · rename_i k f ty e1
      split at h
      · rename_i hc
        obtain ⟨hk, h512, hn, hF⟩ := hc
        obtain ⟨i1, i2⟩ := rof_fits hF h512
        refine ⟨_, _, _, fitV (sgnB (offB f o) n), laid_one e1, by simp [hk, h512, hn, hF], by simp [fitV], by simp [fitV], ?_⟩
        simp [-loopA_succ, Tryz.f149]
        simp only [good_bind, good_unblock]
        refine rof_loop1 (c := c) hk h512 hn hF (fun hall ts hfit => ?_) (fun hno ts hfit => ?_) ?_
        · obtain ⟨l, rfl⟩ := fits_of hfit 0
          have hi := i1.2 hall
          simp [-loopA_succ, rofP, rofM]
          simp only [good_bind, good_unblock]
          refine rof_loop2 (c := c) hk h512 hF (fun ts a ha hfit => ?_) ?_
          · obtain ⟨l, rfl⟩ := fits_of hfit 0
            simp [rofP, rofM, fitV, hi]
            have hr : R8 a := fun q hq => by rw [ha q hq]; exact limb_range _ _
            obtain ⟨m, hm⟩ := i2 hi
            have hb := bval_bound (hF.less h512)
            rw [← K5_pow] at hb
            refine eqv_tup2 (eqvW hr ⟨m, ?_⟩) (Eqv.refl _)
            rw [uval_congr ha, uval_limb, Int.emod_eq_of_lt hb.1 hb.2, hm]
          · simp [rofP]
        · obtain ⟨l, rfl⟩ := fits_of hfit 0
          have hi : ¬ InW (sgnB (offB f o) n) := fun h => hno (i1.1 h)
          simp [rofP, rofM, fitV, hi]
          exact eqv_tup2 eqvW_zero (Eqv.refl _)
        · simp [rofP]
      · simp at h
    · simp at h
  · simp at h
end Go.X
end

section
namespace Go.X
open Go.Proofs
attribute [local irreducible] Good
def modP (z : Int) (n : Nat) : Int := z % 2 ^ n
@[simp] theorem bval_bitN {n : Nat} {z : Int} : bval (bitN n z) n = modP z n := bval_bits z (Nat.le_refl _)
@[simp] theorem bitN_add {n : Nat} {x y : Int} : bitN n (modP x n + modP y n) = bitN n (x + y) := bitN_same (by unfold modP; rw [← Int.add_emod])
theorem neg_mod (x m : Int) : (-(x % m)) % m = (-x) % m := by
  have h := Int.mul_ediv_add_emod x m
  have : -(x % m) = -x + m * (x / m) := by omega
  rw [this, Int.add_mul_emod_self_left]
@[simp] theorem bitN_neg {n : Nat} {x : Int} : bitN n (- modP x n) = bitN n (- x) := bitN_same (by unfold modP; exact neg_mod _ _)
@[simp] theorem BL_add {n : Nat} {x y : Int} : BL n (modP x n + modP y n) = BL n (x + y) := by unfold BL; rw [bitN_add]
@[simp] theorem BL_neg {n : Nat} {x : Int} : BL n (- modP x n) = BL n (- x) := by unfold BL; rw [bitN_neg]
@[simp] theorem offB_zero {f : Nat → Int} : offB f 0 = f := by funext i; simp [offB]
@[simp] theorem Bits_bitN' {n m : Nat} {z : Int} : Bits (bitN n z) m ↔ True := iff_true_intro (Bits_bitN n m z)
theorem modP_in {z : Int} {n : Nat} (h0 : 0 ≤ z) (h1 : z < 2 ^ n) : modP z n = z := Int.emod_eq_of_lt h0 h1
theorem sgnB_bitN {n : Nat} {z : Int} (h1 : - 2 ^ n ≤ z) (h2 : z < 2 ^ n) : sgnB (bitN (n + 1) z) (n + 1) = z := by
  have hp := pow_2_pos n
  unfold sgnB
  have hb : bitN (n + 1) z n = z / 2 ^ n % 2 := by unfold bitN; rw [if_pos (by omega)]
  rw [bval_bitN, Nat.add_sub_cancel, hb]
  unfold modP
  rw [Int.pow_succ]
  by_cases hz : z < 0
  · rw [show z / 2 ^ n = -1 from by rw [Int.ediv_eq_iff_of_pos hp]; omega, if_pos (by decide)]
    have : z % (2 ^ n * 2) = z + 2 ^ n * 2 := by
      rw [← Int.add_emod_right, Int.emod_eq_of_lt (by omega) (by omega)]
    omega
  · rw [Int.ediv_eq_zero_of_lt (by omega) h2, if_neg (by decide), Int.emod_eq_of_lt (by omega) (by omega)]
theorem pow_2_519 : (2 : Int) ^ 519 = 256 * K5 := by
  rw [show (519 : Nat) = 8 + 511 from rfl, Int.pow_add, pow_2_511]; rfl
theorem sgnB_520 {z : Int} (h1 : -(256 * K5) ≤ z) (h2 : z < 256 * K5) : sgnB (bitN 520 z) 520 = z := by
  rw [← pow_2_519] at h1 h2
  exact sgnB_bitN h1 h2
theorem bit_519 {z : Int} (h1 : -(256 * K5) ≤ z) (h2 : z < 256 * K5) : bitN 520 z 519 = if z < 0 then 1 else 0 := by
  have hp := pow_2_pos 519
  unfold bitN
  rw [if_pos (by omega)]
  rw [← pow_2_519] at h1 h2
  by_cases hz : z < 0
  · rw [show z / 2 ^ 519 = -1 from by rw [Int.ediv_eq_iff_of_pos hp]; omega, if_pos hz]; rfl
  · rw [Int.ediv_eq_zero_of_lt (by omega) h2, if_neg hz]; rfl
attribute [irreducible] modP
noncomputable def rbelowS : List AV → PR
  | [.arr .u64 8 f] => if R8 f then .val (.bool (decide (sval f < 0))) else .fail
  | _ => .fail
@[simp] theorem rbelowS_val {f : Nat → Int} (h : R8 f) : rbelowS [.arr .u64 8 f] = .val (.bool (decide (sval f < 0))) := if_pos h
theorem rbelow_ok : SumOk Tryz.prog 150 (pureS rbelowS) := by
  refine sum_fn (L := fun _ => none) (n := 1) (S := stOf []) drawS Tryz.T_ok (stOf_ok (by simp)) Tryz.func150 rfl (by kernel_rfl) (by kernel_rfl) ?_
    (by intro args v h; unfold rbelowS at h; split at h <;> (try split at h) <;> simp at h)
  intro args v h
  unfold rbelowS at h
  split at h
  · rename_i f
    split at h
    · rename_i hf
      cases h
      refine ⟨by simp, by simp, by simp, ?_⟩
      have e : decide (9223372036854775808 ≤ f 7) = decide (sval f < 0) := by rw [← neg_sval hf]; rfl
      simp [Tryz.f150, e]
    · simp at h
  · simp at h
theorem rsign_ok : SumOk Tryz.prog 142 (pureS signS) := by
  refine sum_fn (L := fun _ => none) (n := 9) (S := stOf [(150, pureS rbelowS)]) drawS Tryz.T_ok (stOf_ok (by simp [rbelow_ok])) Tryz.func142 rfl (by kernel_rfl) (by kernel_rfl) ?_
    (by intro args v h; unfold signS at h; split at h <;> (try split at h) <;> simp at h)
  intro args v h
  unfold signS at h
  split at h
  · rename_i f
    split at h
    · rename_i hf
      cases h
      refine ⟨by simp, by simp, by simp, ?_⟩
      by_cases hn : sval f < 0
      · have e : sgnI (sval f) = -1 := by unfold sgnI; rw [if_pos hn]
        simp [Tryz.f142, hf, hn, e]
      · by_cases hz : sval f = 0
        · have e : sgnI (sval f) = 0 := sgnI_zero.2 hz
          have ez : ∀ i, i < 8 → f i = 0 := fun i hi => by rw [limb_sval hf i hi, hz, limb_zero_all i hi]
          simp [Tryz.f142, hf, hn, e, ez]
        · have e : sgnI (sval f) = 1 := by unfold sgnI; rw [if_neg hn, if_neg hz]
          have ne : ∃ i, i < 8 ∧ f i ≠ 0 ∧ ∀ j, j < i → f j = 0 := by
            by_cases g0 : f 0 = 0
            · by_cases g1 : f 1 = 0
              · by_cases g2 : f 2 = 0
                · by_cases g3 : f 3 = 0
                  · by_cases g4 : f 4 = 0
                    · by_cases g5 : f 5 = 0
                      · by_cases g6 : f 6 = 0
                        · by_cases g7 : f 7 = 0
                          · exact absurd (show sval f = 0 from by
                              have hu := uval_congr (f := f) (g := fun _ => 0) (fun j hj => by rcases eight hj with rfl | rfl | rfl | rfl | rfl | rfl | rfl | rfl <;> assumption)
                              rw [zero_val] at hu
                              have := uval_sval hf
                              rw [if_neg hn] at this; omega) hz
                          · exact ⟨7, by omega, g7, fun j hj => by rcases eight (show j < 8 by omega) with rfl | rfl | rfl | rfl | rfl | rfl | rfl | rfl <;> first | assumption | omega⟩
                        · exact ⟨6, by omega, g6, fun j hj => by rcases eight (show j < 8 by omega) with rfl | rfl | rfl | rfl | rfl | rfl | rfl | rfl <;> first | assumption | omega⟩
                      · exact ⟨5, by omega, g5, fun j hj => by rcases eight (show j < 8 by omega) with rfl | rfl | rfl | rfl | rfl | rfl | rfl | rfl <;> first | assumption | omega⟩
                    · exact ⟨4, by omega, g4, fun j hj => by rcases eight (show j < 8 by omega) with rfl | rfl | rfl | rfl | rfl | rfl | rfl | rfl <;> first | assumption | omega⟩
                  · exact ⟨3, by omega, g3, fun j hj => by rcases eight (show j < 8 by omega) with rfl | rfl | rfl | rfl | rfl | rfl | rfl | rfl <;> first | assumption | omega⟩
                · exact ⟨2, by omega, g2, fun j hj => by rcases eight (show j < 8 by omega) with rfl | rfl | rfl | rfl | rfl | rfl | rfl | rfl <;> first | assumption | omega⟩
              · exact ⟨1, by omega, g1, fun j hj => by rcases eight (show j < 8 by omega) with rfl | rfl | rfl | rfl | rfl | rfl | rfl | rfl <;> first | assumption | omega⟩
            · exact ⟨0, by omega, g0, fun j hj => by omega⟩
          obtain ⟨i, hi, g1, g2⟩ := ne
          rcases eight hi with rfl | rfl | rfl | rfl | rfl | rfl | rfl | rfl <;> simp [Tryz.f142, hf, hn, e, g1, g2]
    · simp at h
  · simp at h
theorem radd_ok : SumOk Tryz.prog 141 (pureS addS) := by
  refine sum_fn (L := fun i => if i = 1 then some (.quiet 8) else none) (n := 1) (S := stOf [(182, longS), (147, rplusS), (149, rofS)]) drawS Tryz.T_ok (stOf_ok (by simp [long_ok, rplus_ok, rof_ok])) Tryz.func141 rfl (by kernel_rfl) (by kernel_rfl) ?_
    (by intro args v h; unfold addS at h; split at h <;> (try split at h) <;> simp at h)
  intro args v h
  unfold addS at h
  split at h
  · rename_i f g
    split at h
    · rename_i hc
      obtain ⟨hf, hg⟩ := hc
      cases h
      refine ⟨by simp, by simp [fitV], by simp [fitV], ?_⟩
      have ra := sval_range hf; have rb := sval_range hg
      have hK := K5_pos
      have e := sgnB_520 (z := sval f + sval g) (by omega) (by omega)
      simp [Tryz.f141, hf, hg, longS, rplusS, rofS, e, fitV]
      exact Eqv.refl _
    · simp at h
  · simp at h
theorem rsub_ok : SumOk Tryz.prog 156 (pureS subS) := by
  refine sum_fn (L := fun i => if i = 1 then some (.quiet 9) else none) (n := 1) (S := stOf [(182, longS), (147, rplusS), (148, rminusS), (149, rofS)]) drawS Tryz.T_ok (stOf_ok (by simp [long_ok, rplus_ok, rminus_ok, rof_ok])) Tryz.func156 rfl (by kernel_rfl) (by kernel_rfl) ?_
    (by intro args v h; unfold subS at h; split at h <;> (try split at h) <;> simp at h)
  intro args v h
  unfold subS at h
  split at h
  · rename_i f g
    split at h
    · rename_i hc
      obtain ⟨hf, hg⟩ := hc
      cases h
      refine ⟨by simp, by simp [fitV], by simp [fitV], ?_⟩
      have ra := sval_range hf; have rb := sval_range hg
      have hK := K5_pos
      have e := sgnB_520 (z := sval f + - sval g) (by omega) (by omega)
      rw [← Int.sub_eq_add_neg] at e
      simp [Tryz.f156, hf, hg, longS, rplusS, rminusS, rofS, ← Int.sub_eq_add_neg, e, fitV]
      exact Eqv.refl _
    · simp at h
  · simp at h
noncomputable def rsizeS : Sum := fun args _ nxt => match args with
  | [.arr .u64 8 f] => if R8 f then .val (.slice nxt 0 520 520) [] [BL 520 (absI (sval f))] else .fail
  | _ => .fail
theorem rsize_ok : SumOk Tryz.prog 143 rsizeS := by
  refine sum_mem (L := fun _ => none) (n := 1) (S := stOf [(182, longS), (148, rminusS), (150, pureS rbelowS)]) drawS Tryz.T_ok (stOf_ok (by simp [long_ok, rminus_ok, rbelow_ok])) Tryz.func143 rfl (by kernel_rfl) (by kernel_rfl) ?_
  intro args env nxt h
  unfold rsizeS at h ⊢
  split at h
  · rename_i f
    split at h
    · rename_i hf
      refine ⟨[.arr .u64 8 f], [], [], ⟨rfl, rfl, by simp, by simp, by simp, by simp⟩, ?_⟩
      by_cases hn : sval f < 0
      · have e : absI (sval f) = - sval f := if_pos hn
        simp [Tryz.f143, hf, hn, longS, rminusS, e]
        exact ⟨[2], none, told_new (by simp) (by simp [BL]) (by simp)⟩
      · have e : absI (sval f) = sval f := if_neg hn
        simp [Tryz.f143, hf, hn, longS, e]
        exact ⟨[1], none, told_new (by simp) rfl (by simp)⟩
    · simp at h
  · simp at h
noncomputable def rtopS : Sum := fun args env _ => match args with
  | [.slice p 0 n _] => match env p with
    | some ⟨[.arr .i64 k f], _⟩ => open Classical in if n ≤ k ∧ n ≤ 1040 ∧ Bits f n then .val (.int .i64 (blen (bval f n))) [] [] else .fail
    | _ => .fail
  | _ => .fail
noncomputable def rtopP (n c : Nat) (t3 : Option AV) : List (Option AV) := [some (.slice 0 0 n c), none, none, t3, none, none, none, none, none, none, none, none, none, none, none, none, none, none, none]
noncomputable def rtopLoop : Code := match Tryz.f144.body with | some (.seq _ (.seq _ (.seq (.block _ (.loop c)) _))) => c | _ => .skip
theorem blen_is {z : Int} {n : Nat} (h0 : 2 ^ n ≤ z) (h1 : z < 2 ^ (n + 1)) : blen z = n + 1 := by
  have a := blen_gt_pow h0
  have b := blen_le_pow _ h1
  omega
set_option maxHeartbeats 4000000 in
theorem rtop_loop {f : Nat → Int} {n c k : Nat} {ty : TypeId} (hk : n ≤ k) (hn : n ≤ 1040) (hF : Bits f n) {Q : Ex → St → Prop}
    (hQ : ∀ (ts : List AV), Fits (rtopP n c (some (.int .i64 (blen (bval f n))))) ts → Q (.exit 0) ⟨ts, [⟨[.arr .i64 k f], ty⟩], []⟩)
    {ts : List AV} (h0 : Fits (rtopP n c (some (.int .i64 n))) ts) :
    Good (loopA (exec Tryz.T (stOf []) (fun _ => none) 1042 rtopLoop) 1042 ⟨ts, [⟨[.arr .i64 k f], ty⟩], []⟩) Q := by
  refine loop_rule (fun d s => d ≤ n ∧ bval f n = bval f d ∧ Fits (rtopP n c (some (.int .i64 d))) s.ts ∧ s.m = [⟨[.arr .i64 k f], ty⟩] ∧ s.df = []) ?_ 1042 n _ (by omega)
    ⟨Nat.le_refl _, rfl, h0, rfl, rfl⟩
  rintro d ⟨ts, mm, df⟩ ⟨hd5, hv, hfit, hm', hd⟩
  simp only at hfit hm' hd
  subst hm' hd
  obtain ⟨l, rfl⟩ := fits_of hfit 0
  cases d with
  | zero =>
    have e : blen (bval f n) = 0 := by rw [hv]; exact blen_zero
    rw [e] at hQ
    simp [rtopLoop, rtopP, Tryz.f144]
    exact hQ _ (by simp [rtopP])
  | succ i =>
    have hi1 : (0 : Int) < (i : Int) + 1 := by omega
    have hi2 : (i : Int) < n := by omega
    have hi3 : (0 : Int) ≤ i := by omega
    have hik : i < k := by omega
    have w3 : IntKind.i64.wrap (i : Int) = i := wrap_i64_in (by omega) (by omega)
    have bb := hF i (by omega)
    have lo := bval_bound (hF.less (show i ≤ n by omega))
    have hi' := bval_bound (hF.less (show i + 1 ≤ n by omega))
    by_cases hz : f i = 0
    · simp [rtopLoop, rtopP, Tryz.f144, hi1, hi2, hi3, hik, w3, hz]
      refine ⟨i, by omega, by omega, ?_, rfl⟩
      rw [hv, bval_succ, hz]; omega
    · have h1 : f i = 1 := by omega
      have e : blen (bval f n) = (i : Int) + 1 := by
        rw [hv]
        refine blen_is ?_ hi'.2
        rw [bval_succ, h1]; omega
      rw [e] at hQ
      simp [rtopLoop, rtopP, Tryz.f144, hi1, hi2, hi3, hik, w3, hz]
      exact hQ _ (by simp [rtopP])
theorem rtop_ok : SumOk Tryz.prog 144 rtopS := by
  refine sum_read (L := fun _ => none) (n := 1042) (S := stOf []) drawS Tryz.T_ok (stOf_ok (by simp)) Tryz.func144 rfl (by kernel_rfl) (by kernel_rfl) ?_
  intro args env nxt h
  unfold rtopS at h ⊢
  split at h
  · rename_i p n c
    split at h
    · rename_i k f ty e1
      split at h
      · rename_i hc
        obtain ⟨hk, hn, hF⟩ := hc
        refine ⟨_, _, _, .int .i64 (blen (bval f n)), laid_one e1, by simp [hk, hn, hF], by simp, by simp, ?_⟩
        simp [-loopA_succ, Tryz.f144]
        simp only [good_bind, good_unblock]
        refine rtop_loop (c := c) hk hn hF (fun ts hfit => ?_) ?_
        · obtain ⟨l, rfl⟩ := fits_of hfit 0
          simp [rtopP]
        · simp [rtopP]
      · simp at h
    · simp at h
  · simp at h
end Go.X
end

section
namespace Go.X
open Go.Proofs
attribute [local irreducible] Good
noncomputable def rcmpP (f g : Nat → Int) (t6 : Option AV) : List (Option AV) := [some (.arr .u64 8 f), some (.arr .u64 8 g), some (.ptr 0 0), some (.ptr 1 0), none, some (.slice 5 0 520 520), t6, none, none, none, none, none, none, none, none, none, none, none, none, none, none, none, none, none, none, none]
noncomputable def rcmpM (f g : Nat → Int) (x y u z : Int) : List Blk := [⟨[.arr .u64 8 f], 76⟩, ⟨[.arr .u64 8 g], 76⟩, BL 520 x, BL 520 y, BL 520 u, BL 520 z]
noncomputable def rcmpLoop : Code := match Tryz.f152.body with | some (.seq _ (.seq _ (.seq _ (.seq (.seq _ (.block _ (.loop c))) _)))) => c | _ => .skip
set_option maxHeartbeats 4000000 in
theorem rcmp_loop {f g : Nat → Int} {x y u z : Int} {Q : Ex → St → Prop}
    (hQ : (∀ i, i < 520 → bitN 520 z i = 0) → ∀ (ts : List AV), Fits (rcmpP f g none) ts → Q (.exit 0) ⟨ts, rcmpM f g x y u z, []⟩)
    (hR : (∃ i, i < 520 ∧ bitN 520 z i = 1) → ∀ (ts : List AV), ts[4]? = some (.int .i64 1) → Q .ret ⟨ts, rcmpM f g x y u z, []⟩)
    {ts : List AV} (h0 : Fits (rcmpP f g (some (.int .i64 0))) ts) :
    Good (loopA (exec Tryz.T (stOf [(182, longS), (147, rplusS), (148, rminusS)]) (fun _ => none) 522 rcmpLoop) 522 ⟨ts, rcmpM f g x y u z, []⟩) Q := by
  refine loop_rule (fun d s => ∃ i : Nat, i + d = 520 ∧ (∀ j, j < i → bitN 520 z j = 0) ∧ Fits (rcmpP f g (some (.int .i64 i))) s.ts ∧ s.m = rcmpM f g x y u z ∧ s.df = []) ?_ 522 520 _ (by omega)
    ⟨0, by omega, fun j h => by omega, h0, rfl, rfl⟩
  rintro d ⟨ts, mm, df⟩ ⟨i, hid, hall, hfit, hm', hd⟩
  simp only at hfit hm' hd
  subst hm' hd
  obtain ⟨l, rfl⟩ := fits_of hfit 0
  by_cases hi : i < 520
  · have hi1 : (i : Int) < 520 := by omega
    have hi2 : (0 : Int) ≤ i := by omega
    have w3 : IntKind.i64.wrap ((i : Int) + 1) = i + 1 := wrap_i64_in (by omega) (by omega)
    have bb := Bits_bitN 520 520 z i hi
    by_cases hz : bitN 520 z i = 0
    · simp [rcmpLoop, rcmpP, rcmpM, Tryz.f152, BL, hi, hi1, hi2, w3, hz]
      refine ⟨d - 1, by omega, i + 1, by omega, fun j h => ?_, by omega⟩
      by_cases hj : j = i
      · rw [hj]; exact hz
      · exact hall j (by omega)
    · have h1 : bitN 520 z i = 1 := by omega
      have hR' := hR ⟨i, hi, h1⟩
      simp only [rcmpM, BL] at hR'
      simp [rcmpLoop, rcmpP, rcmpM, Tryz.f152, BL, hi, hi1, hi2, h1]
      exact hR' _ rfl
  · have e : i = 520 := by omega
    have hi1 : ¬ (i : Int) < 520 := by omega
    have hQ' := hQ fun j h => hall j (by omega)
    simp only [rcmpM, BL] at hQ'
    simp [rcmpLoop, rcmpP, rcmpM, Tryz.f152, BL, hi1]
    exact hQ' _ (by simp [rcmpP])
theorem rcmp_ok : SumOk Tryz.prog 152 (pureS cmpS) := by
  refine sum_fn (L := fun _ => none) (n := 522) (S := stOf [(182, longS), (147, rplusS), (148, rminusS)]) drawS Tryz.T_ok (stOf_ok (by simp [long_ok, rplus_ok, rminus_ok])) Tryz.func152 rfl (by kernel_rfl) (by kernel_rfl) ?_
    (by intro args v h; unfold cmpS at h; split at h <;> (try split at h) <;> simp at h)
  intro args v h
  unfold cmpS at h
  split at h
  · rename_i f g
    split at h
    · rename_i hc
      obtain ⟨hf, hg⟩ := hc
      cases h
      refine ⟨by simp, by simp, by simp, ?_⟩
      have ra := sval_range hf; have rb := sval_range hg
      have hK := K5_pos
      have e := bit_519 (z := sval f + - sval g) (by omega) (by omega)
      by_cases hn : sval f + - sval g < 0
      · rw [if_pos hn] at e
        have ec : cmpI (sval f) (sval g) = -1 := by unfold cmpI; rw [if_pos (by omega)]
        simp [-loopA_succ, Tryz.f152, hf, hg, longS, rplusS, rminusS, e, ec]
      · rw [if_neg hn] at e
        simp [-loopA_succ, Tryz.f152, hf, hg, longS, rplusS, rminusS, e]
        simp only [good_bind, good_unblock]
        refine rcmp_loop (z := sval f + - sval g) (fun hall ts hfit => ?_) (fun hex ts ht => ?_) ?_
        · obtain ⟨l, rfl⟩ := fits_of hfit 0
          have hz : sval f + - sval g = 0 := by
            have h1 : bval (bitN 520 (sval f + - sval g)) 520 = bval (fun _ => 0) 520 := bval_congr fun i hi => hall i hi
            have h2 : ∀ n, bval (fun _ => 0) n = 0 := by
              intro n
              induction n with
              | zero => rfl
              | succ n ih => rw [bval_succ, ih]; omega
            rw [h2, bval_bitN] at h1
            have h3 : (2 : Int) ^ 519 ≤ 2 ^ 520 := pow_le (by omega)
            rw [pow_2_519] at h3
            rw [modP_in (by omega) (by omega)] at h1
            exact h1
          have ec : cmpI (sval f) (sval g) = 0 := by unfold cmpI; rw [if_neg (by omega), if_pos (by omega)]
          simp [rcmpP, rcmpM, ec]
        · have ec : cmpI (sval f) (sval g) = 1 := by
            obtain ⟨i, h1, h2⟩ := hex
            have : sval f + - sval g ≠ 0 := by
              intro h0
              rw [h0] at h2
              unfold bitN at h2
              rw [if_pos h1, Int.zero_ediv] at h2
              exact absurd h2 (by decide)
            unfold cmpI; rw [if_neg (by omega), if_neg (by omega)]
          simp [rcmpM, ec, ht]
        · simp [rcmpP]
    · simp at h
  · simp at h
end Go.X
end

section
namespace Go.X
open Go.Proofs
attribute [local irreducible] Good
theorem bval_upd {f : Nat → Int} {v : Int} : ∀ {n j : Nat}, j < n → bval (upd f j v) n = bval f n + (v - f j) * 2 ^ j
  | 0, j, h => by omega
  | n + 1, j, h => by
    rw [bval_succ, bval_succ]
    by_cases hj : j = n
    · subst hj
      have : bval (upd f j v) j = bval f j := bval_congr fun i hi => by unfold upd; rw [if_neg (by omega)]
      rw [this, upd_same]
      grind
    · rw [bval_upd (by omega)]
      have : upd f j v n = f n := by unfold upd; rw [if_neg (by omega)]
      rw [this]; omega
theorem Bits_upd {f : Nat → Int} {n j : Nat} {v : Int} (h : Bits f n) (hv : v = 0 ∨ v = 1) : Bits (upd f j v) n := by
  intro i hi
  unfold upd
  split
  · exact hv
  · exact h i hi
def B01 (c : Int) : Prop := c = 0 ∨ c = 1
noncomputable def rmulP (f g : Nat → Int) (M : Int) (t10 t11 t12 : Option AV) : List (Option AV) := [some (.arr .u64 8 f), some (.arr .u64 8 g), some (.ptr 0 0), some (.ptr 1 0), some (.ptr 2 0), some (.bool false), some (.slice 3 0 520 520), some (.slice 4 0 520 520), some (.int .i64 M), some (.slice 5 0 1040 1040), t10, t11, t12, none, none, none, none, none, none, none, none, none, none, none, none, none, none, none, none, none, none, none, none, none, none, none, none, none, none, none, none, none, none, none, none, none, none, none, none, none, none, none, none, none, none, none, none, none, none, none, none, none, none, none, none, none, none, none, none, none, none, none, none, none, none, none, none, none]
noncomputable def rmulM (f g : Nat → Int) (X Y : Int) (s : Nat → Int) : List Blk := [⟨[.arr .u64 8 f], 76⟩, ⟨[.arr .u64 8 g], 76⟩, ⟨[.arr .u64 8 fun _ => 0], 76⟩, BL 520 X, BL 520 Y, ⟨[.arr .i64 1040 s], 3⟩]
noncomputable def rmulSt : ST := stOf [(143, rsizeS), (144, rtopS), (150, pureS rbelowS), (148, rminusS), (149, rofS)]
noncomputable def rmulOut : Code := match Tryz.f140.body with | some (.seq _ (.seq _ (.seq _ (.seq _ (.seq (.seq _ (.block _ (.loop c))) _))))) => c | _ => .skip
noncomputable def rmulIn : Code := match rmulOut with | .seq _ (.seq (.block _ (.seq _ (.cond _ (.seq _ (.seq _ (.block _ (.loop c)))) _))) _) => c | .seq _ (.seq _ (.seq (.block _ (.seq _ (.cond _ (.seq _ (.seq _ (.block _ (.loop c)))) _))) _)) => c | _ => .skip
theorem rmul_low {X : Int} {M k : Nat} (hM : M ≤ 520) (hX : X < 2 ^ M) (h0 : 0 ≤ X) :
    X % 2 ^ (min (k + 1) M) = X % 2 ^ (min k M) + (if k < M then bitN 520 X k else 0) * 2 ^ k ∧ (M ≤ k → X % 2 ^ (min k M) = X) := by
  constructor
  · by_cases hk : k < M
    · rw [if_pos hk, show min (k + 1) M = k + 1 from by omega, show min k M = k from by omega, emod_pow_succ]
      unfold bitN
      rw [if_pos (by omega)]
    · rw [if_neg hk, show min (k + 1) M = M from by omega, show min k M = M from by omega]; omega
  · intro hk
    rw [show min k M = M from by omega]
    exact Int.emod_eq_of_lt h0 hX
set_option maxHeartbeats 4000000 in
theorem rmul_in {f g : Nat → Int} {X Y : Int} {M i : Nat} (hM : M ≤ 512) (h0 : 0 ≤ X) (hX : X < 2 ^ M) (hi : i < 512) {S0 : Int} (hS : S0 + X * 2 ^ i < 2 ^ 1024) {Q : Ex → St → Prop}
    (hQ : ∀ (ts : List AV) (s : Nat → Int), Bits s 1040 → bval s 1040 = S0 + X * 2 ^ i → Fits (rmulP f g M (some (.int .i64 i)) none none) ts → Q (.exit 2) ⟨ts, rmulM f g X Y s, []⟩)
    {s0 : Nat → Int} (hs0 : Bits s0 1040) (hv0 : bval s0 1040 = S0) {ts : List AV} (hf0 : Fits (rmulP f g M (some (.int .i64 i)) (some (.int .i64 0)) (some (.int .i64 0))) ts) :
    Good (loopA (exec Tryz.T rmulSt (fun _ => none) 1042 rmulIn) 1042 ⟨ts, rmulM f g X Y s0, []⟩) Q := by
  refine loop_rule (fun d st => ∃ k : Nat, k + d = 1030 ∧ ∃ (s : Nat → Int) (c : Int), Bits s 1040 ∧ B01 c ∧ bval s 1040 + c * 2 ^ (i + k) = S0 + X % 2 ^ (min k M) * 2 ^ i ∧ Fits (rmulP f g M (some (.int .i64 i)) (some (.int .i64 c)) (some (.int .i64 k))) st.ts ∧ st.m = rmulM f g X Y s ∧ st.df = []) ?_ 1042 1030 _ (by omega)
    ⟨0, rfl, s0, 0, hs0, Or.inl rfl, by rw [show min 0 M = 0 from by omega, Int.pow_zero, Int.emod_one, hv0]; omega, hf0, rfl, rfl⟩
  rintro d ⟨ts, mm, df⟩ ⟨k, hkd, s, c, hs, hc, hv, hfit, hm', hd⟩
  simp only at hfit hm' hd
  subst hm' hd
  obtain ⟨l, rfl⟩ := fits_of hfit 0
  have hc : c = 0 ∨ c = 1 := hc
  obtain ⟨low, full⟩ := rmul_low (k := k) (show M ≤ 520 by omega) hX h0
  by_cases hgo : k < M ∨ 0 < c
  · have hik : i + k < 1024 := by
      by_cases hkM : k < M
      · omega
      · have hc1 : c = 1 := by omega
        rw [full (by omega), hc1] at hv
        have hb := bval_bound hs
        rcases Nat.lt_or_ge (i + k) 1024 with h | h
        · exact h
        · have := pow_le h
          omega
    have g1 : (0 : Int) ≤ i + k := by omega
    have g2 : (i : Int) + k < 1040 := by omega
    have n1 : ((i : Int) + k).toNat = i + k := by omega
    have m4 : i + k < 1040 := by omega
    have w1 : IntKind.i64.wrap ((i : Int) + k) = i + k := wrap_i64_in (by omega) (by omega)
    have w2 : IntKind.i64.wrap ((k : Int) + 1) = k + 1 := wrap_i64_in (by omega) (by omega)
    have hk2 : (0 : Int) ≤ k := by omega
    have sb := hs (i + k) m4
    have w3 : IntKind.i64.wrap (s (i + k) + c) = s (i + k) + c := wrap_i64_in (by omega) (by omega)
    have step : ∀ x n : Int, (x = 0 ∨ x = 1) → n = s (i + k) + c + x → (if k < M then bitN 520 X k else 0) = x →
        (n.tmod 2 = 0 ∨ n.tmod 2 = 1) ∧ B01 (n.tdiv 2) ∧ Bits (upd s (i + k) (n.tmod 2)) 1040 ∧ bval (upd s (i + k) (n.tmod 2)) 1040 + n.tdiv 2 * 2 ^ (i + (k + 1)) = S0 + X % 2 ^ (min (k + 1) M) * 2 ^ i := by
      intro x n hx hn hlow
      have t1 : n.tmod 2 = n % 2 := Int.tmod_eq_emod_of_nonneg (by omega)
      have t2 : n.tdiv 2 = n / 2 := Int.tdiv_eq_ediv_of_nonneg (by omega)
      rw [t1, t2]
      refine ⟨by omega, show _ ∨ _ by omega, Bits_upd hs (by omega), ?_⟩
      rw [bval_upd m4, low, hlow, Int.add_mul, Int.mul_assoc, show (2 : Int) ^ k * 2 ^ i = 2 ^ (i + k) from by rw [← Int.pow_add, Nat.add_comm], show i + (k + 1) = (i + k) + 1 from rfl, Int.pow_succ]
      have e : n % 2 = n - 2 * (n / 2) := by omega
      rw [e, hn]
      generalize (2 : Int) ^ (i + k) = p at *
      generalize X % 2 ^ (min k M) * 2 ^ i = y at *
      generalize (s (i + k) + c + x) / 2 = q
      generalize bval s 1040 = b at *
      grind
    by_cases hkM : k < M
    · have hk1 : (k : Int) < M := by omega
      have hk3 : (k : Int) < 520 := by omega
      have hk4 : k < 520 := by omega
      have xb := Bits_bitN 520 520 X k hk4
      obtain ⟨d1, d2, d3, d4⟩ := step _ _ xb rfl (if_pos hkM)
      have d2' : (s (i + k) + c + bitN 520 X k).tdiv 2 = 0 ∨ (s (i + k) + c + bitN 520 X k).tdiv 2 = 1 := d2
      have w4 : IntKind.i64.wrap (s (i + k) + c + bitN 520 X k) = s (i + k) + c + bitN 520 X k := wrap_i64_in (by omega) (by omega)
      have w5 : IntKind.i64.wrap ((s (i + k) + c + bitN 520 X k).tmod 2) = (s (i + k) + c + bitN 520 X k).tmod 2 := wrap_i64_in (by omega) (by omega)
      have w6 : IntKind.i64.wrap ((s (i + k) + c + bitN 520 X k).tdiv 2) = (s (i + k) + c + bitN 520 X k).tdiv 2 := wrap_i64_in (by omega) (by omega)
      simp [rmulIn, rmulOut, rmulP, rmulM, BL, Tryz.f140, hk1, hk2, hk3, hk4, g1, g2, n1, m4, w1, w2, w3, w4, w6]
      exact ⟨d - 1, by omega, k + 1, by omega, _, d3, _, d2, d4, ⟨rfl, by omega⟩, rfl⟩
    · have hk1 : ¬ (k : Int) < M := by omega
      have hc1 : 0 < c := by omega
      obtain ⟨d1, d2, d3, d4⟩ := step 0 (s (i + k) + c) (.inl rfl) (by omega) (if_neg hkM)
      have d2' : (s (i + k) + c).tdiv 2 = 0 ∨ (s (i + k) + c).tdiv 2 = 1 := d2
      have w5 : IntKind.i64.wrap ((s (i + k) + c).tmod 2) = (s (i + k) + c).tmod 2 := wrap_i64_in (by omega) (by omega)
      have w6 : IntKind.i64.wrap ((s (i + k) + c).tdiv 2) = (s (i + k) + c).tdiv 2 := wrap_i64_in (by omega) (by omega)
      simp [rmulIn, rmulOut, rmulP, rmulM, BL, Tryz.f140, hk1, hc1, g1, g2, n1, m4, w1, w2, w3, w6]
      exact ⟨d - 1, by omega, k + 1, by omega, _, d3, _, d2, d4, ⟨rfl, by omega⟩, rfl⟩
  · have hk1 : ¬ (k : Int) < M := by omega
    have hc1 : ¬ 0 < c := by omega
    have hc0 : c = 0 := by omega
    have hQ' := hQ
    simp only [rmulM, BL] at hQ'
    simp [rmulIn, rmulOut, rmulP, rmulM, BL, Tryz.f140, hk1, hc1]
    refine hQ' _ s hs ?_ (by simp [rmulP])
    rw [full (by omega), hc0] at hv
    omega
end Go.X
end

section
namespace Go.X
open Go.Proofs
attribute [local irreducible] Good
theorem mod_le {y : Int} (h : 0 ≤ y) (n : Nat) : y % 2 ^ n ≤ y := by
  have hp := pow_2_pos n
  have h1 := Int.mul_ediv_add_emod y (2 ^ n)
  have h2 := Int.mul_nonneg (Int.le_of_lt hp) (Int.ediv_nonneg h (Int.le_of_lt hp))
  omega
theorem pow_2_1022 : (2 : Int) ^ 1022 = K5 * K5 := by
  rw [show (1022 : Nat) = 511 + 511 from rfl, Int.pow_add, pow_2_511]
set_option maxHeartbeats 4000000 in
theorem rmul_out {f g : Nat → Int} {X Y : Int} {M : Nat} (hM : M ≤ 512) (h0 : 0 ≤ X) (hX : X < 2 ^ M) (hXK : X ≤ K5) (hY : 0 ≤ Y) (hYK : Y ≤ K5) {Q : Ex → St → Prop}
    (hQ : ∀ (ts : List AV) (s : Nat → Int), Bits s 1040 → bval s 1040 = X * Y → Fits (rmulP f g M none none none) ts → Q (.exit 0) ⟨ts, rmulM f g X Y s, []⟩)
    {ts : List AV} (hf0 : Fits (rmulP f g M (some (.int .i64 0)) none none) ts) :
    Good (loopA (exec Tryz.T rmulSt (fun _ => none) 1042 rmulOut) 1042 ⟨ts, rmulM f g X Y (fun _ => 0), []⟩) Q := by
  have hz : ∀ n, bval (fun _ => 0) n = 0 := by
    intro n
    induction n with
    | zero => rfl
    | succ n ih => rw [bval_succ, ih]; omega
  refine loop_rule (fun d st => ∃ i : Nat, i + d = 520 ∧ ∃ s : Nat → Int, Bits s 1040 ∧ bval s 1040 = X * (Y % 2 ^ i) ∧ Fits (rmulP f g M (some (.int .i64 i)) none none) st.ts ∧ st.m = rmulM f g X Y s ∧ st.df = []) ?_ 1042 520 _ (by omega)
    ⟨0, rfl, fun _ => 0, fun _ _ => .inl rfl, by rw [hz, Int.pow_zero, Int.emod_one]; omega, hf0, rfl, rfl⟩
  rintro d ⟨ts, mm, df⟩ ⟨i, hid, s, hs, hv, hfit, hm', hd⟩
  simp only at hfit hm' hd
  subst hm' hd
  obtain ⟨l, rfl⟩ := fits_of hfit 0
  by_cases hi : i < 520
  · have hi1 : (i : Int) < 520 := by omega
    have hi2 : (0 : Int) ≤ i := by omega
    have w3 : IntKind.i64.wrap ((i : Int) + 1) = i + 1 := wrap_i64_in (by omega) (by omega)
    have bb := Bits_bitN 520 520 Y i hi
    have hmod : Y % 2 ^ (i + 1) = Y % 2 ^ i + bitN 520 Y i * 2 ^ i := by
      rw [emod_pow_succ]; unfold bitN; rw [if_pos hi]
    by_cases hb : bitN 520 Y i = 1
    · have hnext : X * (Y % 2 ^ i) + X * 2 ^ i = X * (Y % 2 ^ (i + 1)) := by rw [hmod, hb, Int.one_mul, Int.mul_add]
      have hi5 : i < 512 := by
        rcases Nat.lt_or_ge i 512 with h | h
        · exact h
        · have h1 : (2 : Int) ^ 512 ≤ 2 ^ i := pow_le h
          rw [← K5_pow] at h1
          have := K5_pos
          have e : Y / 2 ^ i = 0 := Int.ediv_eq_zero_of_lt hY (by omega)
          unfold bitN at hb
          rw [if_pos hi, e] at hb
          exact absurd hb (by decide)
      have hbig : X * (Y % 2 ^ i) + X * 2 ^ i < 2 ^ 1024 := by
        rw [hnext]
        have h1 := Int.mul_le_mul_of_nonneg_left (mod_le hY (i + 1)) h0
        have h2 := Int.mul_le_mul hXK hYK hY (Int.le_of_lt K5_pos)
        have h3 := pow_2_1022
        have h4 : (2 : Int) ^ 1022 * 2 ≤ 2 ^ 1024 := by rw [← Int.pow_succ]; exact pow_le (by omega)
        have h5 := pow_2_pos 1022
        generalize (2 : Int) ^ 1024 = p at *
        generalize (2 : Int) ^ 1022 = q at *
        omega
      simp [-loopA_succ, rmulOut, rmulP, rmulM, BL, Tryz.f140, hi, hi1, hi2, hb]
      simp only [good_bind, good_unblock]
      refine rmul_in (X := X) (Y := Y) hM h0 hX hi5 hbig (fun ts s hs hv hfit => ?_) hs hv ?_
      · obtain ⟨l, rfl⟩ := fits_of hfit 0
        simp [rmulP, rmulM, BL, w3]
        exact ⟨d - 1, by omega, i + 1, by omega, s, hs, by rw [hv, hnext], by omega, rfl⟩
      · simp [rmulP]
    · have hb0 : bitN 520 Y i = 0 := by omega
      simp [-loopA_succ, rmulOut, rmulP, rmulM, BL, Tryz.f140, hi, hi1, hi2, hb0, w3]
      exact ⟨d - 1, by omega, i + 1, by omega, s, hs, by rw [hv, hmod, hb0]; simp, by omega, rfl⟩
  · have e : i = 520 := by omega
    have hi1 : ¬ (i : Int) < 520 := by omega
    have hQ' := hQ
    simp only [rmulM, BL] at hQ'
    simp [-loopA_succ, rmulOut, rmulP, rmulM, BL, Tryz.f140, hi1]
    refine hQ' _ s hs ?_ (by simp [rmulP])
    rw [hv, Int.emod_eq_of_lt hY ?_]
    have h1 : (2 : Int) ^ 512 ≤ 2 ^ i := pow_le (by omega)
    rw [← K5_pow] at h1
    have := K5_pos
    omega
theorem sgnB_top {s : Nat → Int} {n : Nat} (hs : Bits s (n + 1)) (h : bval s (n + 1) < 2 ^ n) : sgnB s (n + 1) = bval s (n + 1) := by
  unfold sgnB
  rw [Nat.add_sub_cancel, if_neg]
  intro h1
  have hb := bval_bound (hs.less (Nat.le_succ n))
  rw [bval_succ, h1] at h
  omega
set_option maxHeartbeats 4000000 in
theorem rmul_ok : SumOk Tryz.prog 140 (pureS mulS) := by
  refine sum_fn (L := fun _ => none) (n := 1042) (S := rmulSt) drawS Tryz.T_ok (stOf_ok (by simp [rsize_ok, rtop_ok, rbelow_ok, rminus_ok, rof_ok])) Tryz.func140 rfl (by kernel_rfl) (by kernel_rfl) ?_
    (by intro args v h; unfold mulS at h; split at h <;> (try split at h) <;> simp at h)
  intro args v h
  unfold mulS at h
  split at h
  · rename_i f g
    split at h
    · rename_i hc
      obtain ⟨hf, hg⟩ := hc
      cases h
      refine ⟨by simp, by simp [fitV], by simp [fitV], ?_⟩
      have ra := sval_range hf; have rb := sval_range hg
      have hK := K5_pos
      have a0 : 0 ≤ absI (sval f) := by unfold absI; split <;> omega
      have b0 : 0 ≤ absI (sval g) := by unfold absI; split <;> omega
      have a1 : absI (sval f) ≤ K5 := by unfold absI; split <;> omega
      have b1 : absI (sval g) ≤ K5 := by unfold absI; split <;> omega
      have e : modP (absI (sval f)) 520 = absI (sval f) := by
        have h1 := pow_2_519
        have h2 : (2 : Int) ^ 519 ≤ 2 ^ 520 := pow_le (by omega)
        exact modP_in a0 (by omega)
      have l0 := blen_nonneg (absI (sval f))
      have l1 := blen_le (z := absI (sval f)) (by omega)
      have l2 := blen_lt a0
      obtain ⟨M, hM⟩ : ∃ M : Nat, (M : Int) = blen (absI (sval f)) := ⟨(blen (absI (sval f))).toNat, by omega⟩
      rw [show (blen (absI (sval f))).toNat = M from by omega] at l2
      have hprod : absI (sval f) * absI (sval g) = absI (sval f * sval g) := (absI_mul _ _).symm
      have hbig : absI (sval f * sval g) < 2 ^ 1039 := by
        rw [← hprod]
        have h1 := Int.mul_le_mul a1 b1 b0 (Int.le_of_lt hK)
        have h2 : (2 : Int) ^ 1022 * 2 ≤ 2 ^ 1039 := by rw [← Int.pow_succ]; exact pow_le (by omega)
        have h3 := pow_2_1022
        have h5 := pow_2_pos 1022
        generalize (2 : Int) ^ 1039 = p at *
        generalize (2 : Int) ^ 1022 = q at *
        omega
      simp [-loopA_succ, Tryz.f140, hf, hg, rmulSt, rsizeS, rtopS, e, ← hM]
      simp only [good_bind, good_unblock]
      refine rmul_out (X := absI (sval f)) (Y := absI (sval g)) (by omega) a0 l2 a1 b0 b1 (fun ts s hs hv hfit => ?_) ?_
      · obtain ⟨l, rfl⟩ := fits_of hfit 0
        rw [hprod] at hv
        by_cases h1 : sval f < 0 <;> by_cases h2 : sval g < 0
        · have hn : ¬ sval f * sval g < 0 := by
            have := Int.mul_nonneg (show 0 ≤ - sval f by omega) (show 0 ≤ - sval g by omega)
            rw [Int.neg_mul_neg] at this; omega
          have hA : absI (sval f * sval g) = sval f * sval g := if_neg hn
          have hS : sgnB s 1040 = sval f * sval g := by rw [sgnB_top hs (by rw [hv]; exact hbig), hv, hA]
          simp [rmulP, rmulM, rofS, fitV, hf, hg, h1, h2, hs, hS]
          exact Eqv.refl _
        · have hn : sval f * sval g ≤ 0 := by
            have := Int.mul_nonneg (show 0 ≤ - sval f by omega) (show 0 ≤ sval g by omega)
            rw [Int.neg_mul] at this; omega
          have hA : - absI (sval f * sval g) = sval f * sval g := by unfold absI; split <;> omega
          have hS : sgnB (bitN 1040 (- absI (sval f * sval g))) 1040 = sval f * sval g := by
            have hp := pow_2_pos 1039
            have h0 : 0 ≤ absI (sval f * sval g) := by unfold absI; split <;> omega
            rw [hA]
            exact sgnB_bitN (by rw [← hA]; exact Int.neg_le_neg (Int.le_of_lt hbig)) (by rw [← hA]; generalize (2 : Int) ^ 1039 = p at *; omega)
          simp [rmulP, rmulM, rofS, rminusS, fitV, hf, hg, h1, h2, hs, hv, hS]
          exact Eqv.refl _
        · have hn : sval f * sval g ≤ 0 := by
            have := Int.mul_nonneg (show 0 ≤ sval f by omega) (show 0 ≤ - sval g by omega)
            rw [Int.mul_neg] at this; omega
          have hA : - absI (sval f * sval g) = sval f * sval g := by unfold absI; split <;> omega
          have hS : sgnB (bitN 1040 (- absI (sval f * sval g))) 1040 = sval f * sval g := by
            have hp := pow_2_pos 1039
            have h0 : 0 ≤ absI (sval f * sval g) := by unfold absI; split <;> omega
            rw [hA]
            exact sgnB_bitN (by rw [← hA]; exact Int.neg_le_neg (Int.le_of_lt hbig)) (by rw [← hA]; generalize (2 : Int) ^ 1039 = p at *; omega)
          simp [rmulP, rmulM, rofS, rminusS, fitV, hf, hg, h1, h2, hs, hv, hS]
          exact Eqv.refl _
        · have hn : ¬ sval f * sval g < 0 := by
            have := Int.mul_nonneg (show 0 ≤ sval f by omega) (show 0 ≤ sval g by omega); omega
          have hA : absI (sval f * sval g) = sval f * sval g := if_neg hn
          have hS : sgnB s 1040 = sval f * sval g := by rw [sgnB_top hs (by rw [hv]; exact hbig), hv, hA]
          simp [rmulP, rmulM, rofS, fitV, hf, hg, h1, h2, hs, hS]
          exact Eqv.refl _
      · simp [rmulP]
    · simp at h
  · simp at h
end Go.X
end
