/- Quaternions: the matrix of a rotation; turned by a speed. -/
import Derived.Test.YtgfpllfimpgooaaGreatJMT
namespace Go.X
open Go.Proofs
attribute [local irreducible] Good
attribute [simp] Tryz.T_190
attribute [simp] Tryz.T_189

def r00 (a b c d : Int) : Int := 1 * (a * a) + 1 * (b * b) + -1 * (c * c) + -1 * (d * d)
def r01 (a b c d : Int) : Int := 2 * (b * c) + -2 * (a * d)
def r02 (a b c d : Int) : Int := 2 * (b * d) + 2 * (a * c)
def r10 (a b c d : Int) : Int := 2 * (b * c) + 2 * (a * d)
def r11 (a b c d : Int) : Int := 1 * (a * a) + -1 * (b * b) + 1 * (c * c) + -1 * (d * d)
def r12 (a b c d : Int) : Int := 2 * (c * d) + -2 * (a * b)
def r20 (a b c d : Int) : Int := 2 * (b * d) + -2 * (a * c)
def r21 (a b c d : Int) : Int := 2 * (c * d) + 2 * (a * b)
def r22 (a b c d : Int) : Int := 1 * (a * a) + -1 * (b * b) + -1 * (c * c) + 1 * (d * d)
theorem laid3 {env : Mem} {args : List AV} (args0 : List AV) {p q r : Nat} {l m n : List AV} {ty ty' ty'' : TypeId} (ha : args = renL (fun i => [p, q, r].getD i 0) args0) (hr : ∀ b ∈ refsL args0, b < 3)
    (hp : env p = some ⟨l, ty⟩) (hq : env q = some ⟨m, ty'⟩) (hs : env r = some ⟨n, ty''⟩) (h1 : p ≠ q) (h2 : p ≠ r) (h3 : q ≠ r) (hl : refsL l = []) (hm : refsL m = []) (hn : refsL n = []) : Laid env args args0 [p, q, r] [⟨l, ty⟩, ⟨m, ty'⟩, ⟨n, ty''⟩] := by
  have three : ∀ i, i < 3 → i = 0 ∨ i = 1 ∨ i = 2 := by omega
  refine ⟨ha, rfl, by simp [h1, h2, h3], hr, ?_, ?_⟩
  · intro i hi
    rcases three i (by simpa using hi) with rfl | rfl | rfl
    · simp [hp, renL_noref _ _ hl]
    · simp [hq, renL_noref _ _ hm]
    · simp [hs, renL_noref _ _ hn]
  · intro i hi
    rcases three i (by simpa using hi) with rfl | rfl | rfl
    · simp [hl]
    · simp [hm]
    · simp [hn]
@[simp] theorem all_three {P : Nat → Prop} : (∀ i, i < 3 → P i) ↔ P 0 ∧ P 1 ∧ P 2 := by
  constructor
  · intro h; exact ⟨h 0 (by omega), h 1 (by omega), h 2 (by omega)⟩
  · rintro ⟨h0, h1, h2⟩ i hi
    have : i = 0 ∨ i = 1 ∨ i = 2 := by omega
    rcases this with rfl | rfl | rfl <;> assumption
theorem Bd_r {a b c d : Int} (ha : Bd 63 a) (hb : Bd 63 b) (hc : Bd 63 c) (hd : Bd 63 d) : Bd 131 (r00 a b c d) ∧ Bd 131 (r01 a b c d) ∧ Bd 131 (r02 a b c d) ∧ Bd 131 (r10 a b c d) ∧ Bd 131 (r11 a b c d) ∧ Bd 131 (r12 a b c d) ∧ Bd 131 (r20 a b c d) ∧ Bd 131 (r21 a b c d) ∧ Bd 131 (r22 a b c d) := by
  have two : ∀ {z w : Int} (k : Int), -2 ≤ k → k ≤ 2 → Bd 63 z → Bd 63 w → Bd 128 (k * (z * w)) := fun k h1 h2 hz hw => (Bd2 h1 h2).mul (hz.mul hw)
  have f : ∀ {s t u v : Int}, Bd 128 s → Bd 128 t → Bd 128 u → Bd 128 v → Bd 131 (s + t + u + v) := fun hs ht hu hv => ((hs.add ht).add (hu.mono (by decide))).add (hv.mono (by decide))
  have g : ∀ {s t : Int}, Bd 128 s → Bd 128 t → Bd 131 (s + t) := fun hs ht => (hs.add ht).mono (by decide)
  refine ⟨f ?_ ?_ ?_ ?_, g ?_ ?_, g ?_ ?_, g ?_ ?_, f ?_ ?_ ?_ ?_, g ?_ ?_, g ?_ ?_, g ?_ ?_, f ?_ ?_ ?_ ?_⟩ <;> first
    | exact two _ (by decide) (by decide) ‹_› ‹_›

noncomputable def qmat4S : Sum := fun args env _ => match args with
  | [.slice b 0 4 _, .ptr p 0, .ptr q 0] => match env b, env p, env q with
    | some ⟨[.arr .i64 12 t], _⟩, some ⟨[.arr .u64 8 n0, .arr .u64 8 n1, .arr .u64 8 n2, .arr .u64 8 n3], _⟩, some ⟨[.arr .u64 8 g], _⟩ => open Classical in if R8 n0 ∧ R8 n1 ∧ R8 n2 ∧ R8 n3 ∧ R8 g ∧ Bd 63 (sval n0) ∧ Bd 63 (sval n1) ∧ Bd 63 (sval n2) ∧ Bd 63 (sval n3) ∧ 0 < sval g ∧ -2 ≤ t 0 ∧ t 0 ≤ 2 ∧ 0 ≤ t 1 ∧ t 1 < 4 ∧ 0 ≤ t 2 ∧ t 2 < 4 ∧ -2 ≤ t 3 ∧ t 3 ≤ 2 ∧ 0 ≤ t 4 ∧ t 4 < 4 ∧ 0 ≤ t 5 ∧ t 5 < 4 ∧ -2 ≤ t 6 ∧ t 6 ≤ 2 ∧ 0 ≤ t 7 ∧ t 7 < 4 ∧ 0 ≤ t 8 ∧ t 8 < 4 ∧ -2 ≤ t 9 ∧ t 9 ≤ 2 ∧ 0 ≤ t 10 ∧ t 10 < 4 ∧ 0 ≤ t 11 ∧ t 11 < 4 ∧ b ≠ p ∧ b ≠ q ∧ p ≠ q then .val (.int .i64 (clampI (quoI ((t 0 * (sval (pick4 n0 n1 n2 n3 (t 1)) * sval (pick4 n0 n1 n2 n3 (t 2))) + t 3 * (sval (pick4 n0 n1 n2 n3 (t 4)) * sval (pick4 n0 n1 n2 n3 (t 5))) + t 6 * (sval (pick4 n0 n1 n2 n3 (t 7)) * sval (pick4 n0 n1 n2 n3 (t 8))) + t 9 * (sval (pick4 n0 n1 n2 n3 (t 10)) * sval (pick4 n0 n1 n2 n3 (t 11)))) * 4294967296) (sval g)))) [] [] else .fail
    | _, _, _ => .fail
  | _ => .fail
set_option maxHeartbeats 40000000 in
theorem qmat4_ok : SumOk Tryz.prog 200 qmat4S := by
  refine sum_read (L := fun _ => none) (n := 1) (S := stOf [(201, qsum4S), (122, pureS shlS), (107, pureS divS), (64, pureS finS)]) drawS Tryz.T_ok (stOf_ok (by simp [qsum4_ok, shl_ok, div_ok, fin_ok])) Tryz.func200 rfl (by kernel_rfl) (by kernel_rfl) ?_
  intro args env nxt h
  unfold qmat4S at h ⊢
  split at h
  · rename_i b c p q
    split at h
    · rename_i t ty0 n0 n1 n2 n3 ty1 g ty2 m0 m1 m2
      split at h
      · rename_i hc
        obtain ⟨hn0, hn1, hn2, hn3, hg, e0, e1, e2, e3, e4, e5, e6, e7, e8, e9, e10, e11, e12, e13, e14, e15, e16, e17, e18, e19, e20, e21, e22, e23, e24, e25, e26, e27, e28, hne0, hne1, hne2⟩ := id hc
        refine ⟨_, _, _, .int .i64 (clampI (quoI ((t 0 * (sval (pick4 n0 n1 n2 n3 (t 1)) * sval (pick4 n0 n1 n2 n3 (t 2))) + t 3 * (sval (pick4 n0 n1 n2 n3 (t 4)) * sval (pick4 n0 n1 n2 n3 (t 5))) + t 6 * (sval (pick4 n0 n1 n2 n3 (t 7)) * sval (pick4 n0 n1 n2 n3 (t 8))) + t 9 * (sval (pick4 n0 n1 n2 n3 (t 10)) * sval (pick4 n0 n1 n2 n3 (t 11)))) * 4294967296) (sval g))), laid3 [.slice 0 0 4 c, .ptr 1 0, .ptr 2 0] rfl (by simp) m0 m1 m2 hne0 hne1 hne2 rfl rfl rfl, by first | exact if_pos hc | (simp only [m0, m1, m2]; exact if_pos hc), by simp, by simp, ?_⟩
        have hp := Bd_pick4 e0 e1 e2 e3
        have b0 : Bd 128 (t 0 * (sval (pick4 n0 n1 n2 n3 (t 1)) * sval (pick4 n0 n1 n2 n3 (t 2)))) := (Bd2 e5 e6).mul ((hp _).mul (hp _))
        have b1 : Bd 128 (t 3 * (sval (pick4 n0 n1 n2 n3 (t 4)) * sval (pick4 n0 n1 n2 n3 (t 5)))) := (Bd2 e11 e12).mul ((hp _).mul (hp _))
        have b2 : Bd 128 (t 6 * (sval (pick4 n0 n1 n2 n3 (t 7)) * sval (pick4 n0 n1 n2 n3 (t 8)))) := (Bd2 e17 e18).mul ((hp _).mul (hp _))
        have b3 : Bd 128 (t 9 * (sval (pick4 n0 n1 n2 n3 (t 10)) * sval (pick4 n0 n1 n2 n3 (t 11)))) := (Bd2 e23 e24).mul ((hp _).mul (hp _))
        have d1 := b0.add b1
        have d2 := d1.add (b2.mono (by decide : 128 ≤ 129))
        have d3 := d2.add (b3.mono (by decide : 128 ≤ 130))
        have ds := d3.w (by decide)
        have dn : Bd 163 ((t 0 * (sval (pick4 n0 n1 n2 n3 (t 1)) * sval (pick4 n0 n1 n2 n3 (t 2))) + t 3 * (sval (pick4 n0 n1 n2 n3 (t 4)) * sval (pick4 n0 n1 n2 n3 (t 5))) + t 6 * (sval (pick4 n0 n1 n2 n3 (t 7)) * sval (pick4 n0 n1 n2 n3 (t 8))) + t 9 * (sval (pick4 n0 n1 n2 n3 (t 10)) * sval (pick4 n0 n1 n2 n3 (t 11)))) * 4294967296) := by simpa using d3.shl 32
        have dw := dn.w (by decide)
        have dq := (dn.quoI e4).w (by decide)
        have sz : sval g ≠ 0 := by omega
        simp (maxSteps := 10000000) [Tryz.f200, hn0, hn1, hn2, hn3, hg, e0, e1, e2, e3, e5, e6, e7, e8, e9, e10, e11, e12, e13, e14, e15, e16, e17, e18, e19, e20, e21, e22, e23, e24, e25, e26, e27, e28, R8_limb, qsum4S, sval_limb ds, dw, sval_limb dw, dq, sval_limb dq, sz, shlV, fitV, quoV]
      · simp at h
    · simp at h
  · simp at h

noncomputable def qmat2S : Sum := fun args env _ => match args with
  | [.slice b 0 2 _, .ptr p 0, .ptr q 0] => match env b, env p, env q with
    | some ⟨[.arr .i64 6 t], _⟩, some ⟨[.arr .u64 8 n0, .arr .u64 8 n1, .arr .u64 8 n2, .arr .u64 8 n3], _⟩, some ⟨[.arr .u64 8 g], _⟩ => open Classical in if R8 n0 ∧ R8 n1 ∧ R8 n2 ∧ R8 n3 ∧ R8 g ∧ Bd 63 (sval n0) ∧ Bd 63 (sval n1) ∧ Bd 63 (sval n2) ∧ Bd 63 (sval n3) ∧ 0 < sval g ∧ -2 ≤ t 0 ∧ t 0 ≤ 2 ∧ 0 ≤ t 1 ∧ t 1 < 4 ∧ 0 ≤ t 2 ∧ t 2 < 4 ∧ -2 ≤ t 3 ∧ t 3 ≤ 2 ∧ 0 ≤ t 4 ∧ t 4 < 4 ∧ 0 ≤ t 5 ∧ t 5 < 4 ∧ b ≠ p ∧ b ≠ q ∧ p ≠ q then .val (.int .i64 (clampI (quoI ((t 0 * (sval (pick4 n0 n1 n2 n3 (t 1)) * sval (pick4 n0 n1 n2 n3 (t 2))) + t 3 * (sval (pick4 n0 n1 n2 n3 (t 4)) * sval (pick4 n0 n1 n2 n3 (t 5)))) * 4294967296) (sval g)))) [] [] else .fail
    | _, _, _ => .fail
  | _ => .fail
set_option maxHeartbeats 40000000 in
theorem qmat2_ok : SumOk Tryz.prog 200 qmat2S := by
  refine sum_read (L := fun _ => none) (n := 1) (S := stOf [(201, qsum2S), (122, pureS shlS), (107, pureS divS), (64, pureS finS)]) drawS Tryz.T_ok (stOf_ok (by simp [qsum2_ok, shl_ok, div_ok, fin_ok])) Tryz.func200 rfl (by kernel_rfl) (by kernel_rfl) ?_
  intro args env nxt h
  unfold qmat2S at h ⊢
  split at h
  · rename_i b c p q
    split at h
    · rename_i t ty0 n0 n1 n2 n3 ty1 g ty2 m0 m1 m2
      split at h
      · rename_i hc
        obtain ⟨hn0, hn1, hn2, hn3, hg, e0, e1, e2, e3, e4, e5, e6, e7, e8, e9, e10, e11, e12, e13, e14, e15, e16, hne0, hne1, hne2⟩ := id hc
        refine ⟨_, _, _, .int .i64 (clampI (quoI ((t 0 * (sval (pick4 n0 n1 n2 n3 (t 1)) * sval (pick4 n0 n1 n2 n3 (t 2))) + t 3 * (sval (pick4 n0 n1 n2 n3 (t 4)) * sval (pick4 n0 n1 n2 n3 (t 5)))) * 4294967296) (sval g))), laid3 [.slice 0 0 2 c, .ptr 1 0, .ptr 2 0] rfl (by simp) m0 m1 m2 hne0 hne1 hne2 rfl rfl rfl, by first | exact if_pos hc | (simp only [m0, m1, m2]; exact if_pos hc), by simp, by simp, ?_⟩
        have hp := Bd_pick4 e0 e1 e2 e3
        have b0 : Bd 128 (t 0 * (sval (pick4 n0 n1 n2 n3 (t 1)) * sval (pick4 n0 n1 n2 n3 (t 2)))) := (Bd2 e5 e6).mul ((hp _).mul (hp _))
        have b1 : Bd 128 (t 3 * (sval (pick4 n0 n1 n2 n3 (t 4)) * sval (pick4 n0 n1 n2 n3 (t 5)))) := (Bd2 e11 e12).mul ((hp _).mul (hp _))
        have d1 := b0.add b1
        have ds := d1.w (by decide)
        have dn : Bd 161 ((t 0 * (sval (pick4 n0 n1 n2 n3 (t 1)) * sval (pick4 n0 n1 n2 n3 (t 2))) + t 3 * (sval (pick4 n0 n1 n2 n3 (t 4)) * sval (pick4 n0 n1 n2 n3 (t 5)))) * 4294967296) := by simpa using d1.shl 32
        have dw := dn.w (by decide)
        have dq := (dn.quoI e4).w (by decide)
        have sz : sval g ≠ 0 := by omega
        simp (maxSteps := 10000000) [Tryz.f200, hn0, hn1, hn2, hn3, hg, e0, e1, e2, e3, e5, e6, e7, e8, e9, e10, e11, e12, e13, e14, e15, e16, R8_limb, qsum2S, sval_limb ds, dw, sval_limb dw, dq, sval_limb dq, sz, shlV, fitV, quoV]
      · simp at h
    · simp at h
  · simp at h

noncomputable def qMatrixS : List AV → PR
  | [.agg [.int .i64 a, .int .i64 b, .int .i64 c, .int .i64 d]] => open Classical in if InI a ∧ InI b ∧ InI c ∧ InI d then .val (if TurnP a b c d then .tup [.agg [.int .i64 (clampI (quoI (r00 a b c d * 4294967296) (sq4 a b c d))), .int .i64 (clampI (quoI (r01 a b c d * 4294967296) (sq4 a b c d))), .int .i64 (clampI (quoI (r02 a b c d * 4294967296) (sq4 a b c d))), .int .i64 (clampI (quoI (r10 a b c d * 4294967296) (sq4 a b c d))), .int .i64 (clampI (quoI (r11 a b c d * 4294967296) (sq4 a b c d))), .int .i64 (clampI (quoI (r12 a b c d * 4294967296) (sq4 a b c d))), .int .i64 (clampI (quoI (r20 a b c d * 4294967296) (sq4 a b c d))), .int .i64 (clampI (quoI (r21 a b c d * 4294967296) (sq4 a b c d))), .int .i64 (clampI (quoI (r22 a b c d * 4294967296) (sq4 a b c d)))], .int .i64 0] else .tup [.agg [.int .i64 0, .int .i64 0, .int .i64 0, .int .i64 0, .int .i64 0, .int .i64 0, .int .i64 0, .int .i64 0, .int .i64 0], .int .i64 9]) else .fail
  | _ => .fail
@[simp] theorem qMatrixS_val {a b c d : Int} (h : InI a ∧ InI b ∧ InI c ∧ InI d) : qMatrixS [.agg [.int .i64 a, .int .i64 b, .int .i64 c, .int .i64 d]] = .val (if TurnP a b c d then .tup [.agg [.int .i64 (clampI (quoI (r00 a b c d * 4294967296) (sq4 a b c d))), .int .i64 (clampI (quoI (r01 a b c d * 4294967296) (sq4 a b c d))), .int .i64 (clampI (quoI (r02 a b c d * 4294967296) (sq4 a b c d))), .int .i64 (clampI (quoI (r10 a b c d * 4294967296) (sq4 a b c d))), .int .i64 (clampI (quoI (r11 a b c d * 4294967296) (sq4 a b c d))), .int .i64 (clampI (quoI (r12 a b c d * 4294967296) (sq4 a b c d))), .int .i64 (clampI (quoI (r20 a b c d * 4294967296) (sq4 a b c d))), .int .i64 (clampI (quoI (r21 a b c d * 4294967296) (sq4 a b c d))), .int .i64 (clampI (quoI (r22 a b c d * 4294967296) (sq4 a b c d)))], .int .i64 0] else .tup [.agg [.int .i64 0, .int .i64 0, .int .i64 0, .int .i64 0, .int .i64 0, .int .i64 0, .int .i64 0, .int .i64 0, .int .i64 0], .int .i64 9]) := if_pos h
set_option maxHeartbeats 40000000 in
set_option maxRecDepth 100000 in
theorem qMatrix_ok : SumOk Tryz.prog 120 (pureS qMatrixS) := by
  refine sum_fn (L := fun i => if i = 12 then some (.quiet 16) else none) (n := 5) (S := stOf [(113, pureS qcheckS), (114, pureS qrawS), (115, pureS qsquareS), (200, orS qmat4S qmat2S)]) drawS Tryz.T_ok (stOf_ok (by simp [qcheck_ok, qraw_ok, qsquare_ok, orS_ok qmat4_ok qmat2_ok])) Tryz.func120 rfl (by kernel_rfl) (by kernel_rfl) ?_
    (by intro args v h; unfold qMatrixS at h; split at h <;> (try split at h) <;> simp at h)
  intro args v h
  unfold qMatrixS at h
  split at h
  · rename_i a b c d
    split at h
    · rename_i hc
      obtain ⟨ha, hb, hc, hd⟩ := hc
      cases h
      refine ⟨by simp, by (split <;> simp), by (split <;> simp), ?_⟩
      have sb := (Bd_sq4 (Bd.of ha) (Bd.of hb) (Bd.of hc) (Bd.of hd)).w (by decide)
      by_cases tt : TurnP a b c d
      · have sp := Turn_pos tt
        simp (maxSteps := 10000000) [ha, hb, hc, hd, fitI ha, fitI hb, fitI hc, fitI hd, R8_limb, Bd.of ha, Bd.of hb, Bd.of hc, Bd.of hd, sval_limb sb, orS, qmat4S, qmat2S, pick4, r00, r01, r02, r10, r11, r12, r20, r21, r22, Tryz.f120, tt, sp]
      · simp [ha, hb, hc, hd, Tryz.f120, tt]
    · simp at h
  · simp at h

noncomputable def r5byS : List AV → PR
  | [.arr .u64 8 f, .arr .u64 8 g] => open Classical in if R8 f ∧ R8 g ∧ InW (sval f * 4294967296) ∧ sval g ≠ 0 ∧ InW (quoI (sval f * 4294967296) (sval g)) then .val (.int .i64 (clampI (quoI (sval f * 4294967296) (sval g)))) else .fail
  | _ => .fail
@[simp] theorem r5byS_val {f g : Nat → Int} (h : R8 f ∧ R8 g ∧ InW (sval f * 4294967296) ∧ sval g ≠ 0 ∧ InW (quoI (sval f * 4294967296) (sval g))) : r5byS [.arr .u64 8 f, .arr .u64 8 g] = .val (.int .i64 (clampI (quoI (sval f * 4294967296) (sval g)))) := if_pos h
theorem r5by_ok : SumOk Tryz.prog 217 (pureS r5byS) := by
  refine sum_fn (L := fun i => if i = 1 then some (.held 10 [6, 7]) else none) (n := 1) (S := stOf [(193, pureS divS), (164, pureS rwithinS), (194, pureS r3twiceS)]) drawS Tryz.T_ok (stOf_ok (by simp [rdiv_ok, rwithin_ok, r3twice_ok])) Tryz.func217 rfl (by kernel_rfl) (by kernel_rfl) ?_
    (by intro args v h; unfold r5byS at h; split at h <;> (try split at h) <;> simp at h)
  intro args v h
  unfold r5byS at h
  split at h
  · rename_i f g
    split at h
    · rename_i hc
      obtain ⟨hf, hg, e0, e1, e2⟩ := hc
      cases h
      refine ⟨by simp, by simp, by simp, ?_⟩
      simp [Tryz.f217, hf, hg, e0, e1, e2, R8_limb, quoV, sval_limb e0, sval_limb e2]
    · simp at h
  · simp at h

noncomputable def r5UnitS : List AV → PR
  | [.agg [.int .i64 a, .int .i64 b, .int .i64 c, .int .i64 d]] => open Classical in if InI a ∧ InI b ∧ InI c ∧ InI d then .val (if TurnP a b c d then .tup [.agg [.int .i64 (clampI (ratI a (sq4 a b c d))), .int .i64 (clampI (ratI b (sq4 a b c d))), .int .i64 (clampI (ratI c (sq4 a b c d))), .int .i64 (clampI (ratI d (sq4 a b c d)))], .int .i64 0] else .tup [.agg [.int .i64 0, .int .i64 0, .int .i64 0, .int .i64 0], .int .i64 9]) else .fail
  | _ => .fail
@[simp] theorem r5UnitS_val {a b c d : Int} (h : InI a ∧ InI b ∧ InI c ∧ InI d) : r5UnitS [.agg [.int .i64 a, .int .i64 b, .int .i64 c, .int .i64 d]] = .val (if TurnP a b c d then .tup [.agg [.int .i64 (clampI (ratI a (sq4 a b c d))), .int .i64 (clampI (ratI b (sq4 a b c d))), .int .i64 (clampI (ratI c (sq4 a b c d))), .int .i64 (clampI (ratI d (sq4 a b c d)))], .int .i64 0] else .tup [.agg [.int .i64 0, .int .i64 0, .int .i64 0, .int .i64 0], .int .i64 9]) := if_pos h
set_option maxHeartbeats 4000000 in
theorem r5Unit_ok : SumOk Tryz.prog 101 (pureS r5UnitS) := by
  refine sum_fn (L := fun i => if i = 4 then some (.quiet 17) else none) (n := 1) (S := stOf [(179, pureS r3ratioS), (176, pureS r5checkS), (178, pureS r5squareS)]) drawS Tryz.T_ok (stOf_ok (by simp [r3ratio_ok, r5check_ok, r5square_ok])) Tryz.func101 rfl (by kernel_rfl) (by kernel_rfl) ?_
    (by intro args v h; unfold r5UnitS at h; split at h <;> (try split at h) <;> simp at h)
  intro args v h
  unfold r5UnitS at h
  split at h
  · rename_i a b c d
    split at h
    · rename_i hc
      obtain ⟨ha, hb, hc, hd⟩ := hc
      cases h
      refine ⟨by simp, by (split <;> simp), by (split <;> simp), ?_⟩
      have sb := (Bd_sq4 (Bd.of ha) (Bd.of hb) (Bd.of hc) (Bd.of hd)).w (by decide)
      by_cases tt : TurnP a b c d
      · have sp := Turn_pos tt
        simp [ha, hb, hc, hd, R8_limb, sval_limb sb, Tryz.f101, tt, sp]
      · simp [ha, hb, hc, hd, Tryz.f101, tt]
    · simp at h
  · simp at h

noncomputable def qspin1S : Sum := fun args env _ => match args with
  | [.int .i64 k, .ptr p 0, .ptr q 0, .ptr r 0] => match env p, env q, env r with
    | some ⟨[.arr .u64 8 n0, .arr .u64 8 n1, .arr .u64 8 n2, .arr .u64 8 n3], _⟩, some ⟨[.int .i64 t], _⟩, some ⟨[.arr .u64 8 o0, .arr .u64 8 o1, .arr .u64 8 o2, .arr .u64 8 o3], _⟩ => open Classical in if R8 n0 ∧ R8 n1 ∧ R8 n2 ∧ R8 n3 ∧ InI t ∧ R8 o0 ∧ R8 o1 ∧ R8 o2 ∧ R8 o3 ∧ 0 ≤ k ∧ k < 4 ∧ Bd 63 (sval n0) ∧ Bd 63 (sval n1) ∧ Bd 63 (sval n2) ∧ Bd 63 (sval n3) ∧ Bd 129 (sval o0) ∧ Bd 129 (sval o1) ∧ Bd 129 (sval o2) ∧ Bd 129 (sval o3) ∧ p ≠ q ∧ p ≠ r ∧ q ≠ r then .val (.int .i64 (clampI ((sval (pick4 n0 n1 n2 n3 k) * 36893488147419103232 + t * sval (pick4 o0 o1 o2 o3 k)) / 2 ^ 65))) [] [] else .fail
    | _, _, _ => .fail
  | _ => .fail
set_option maxHeartbeats 4000000 in
theorem qspin1_ok : SumOk Tryz.prog 172 qspin1S := by
  refine sum_read (L := fun _ => none) (n := 1) (S := stOf [(64, pureS finS), (173, pureS qplusS), (174, pureS qtimesS), (105, pureS ofS), (122, pureS shlS)]) drawS Tryz.T_ok (stOf_ok (by simp [fin_ok, qplus_ok, qtimes_ok, of_ok, shl_ok])) Tryz.func172 rfl (by kernel_rfl) (by kernel_rfl) ?_
  intro args env nxt h
  unfold qspin1S at h ⊢
  split at h
  · rename_i k p q r
    split at h
    · rename_i n0 n1 n2 n3 ty0 t ty1 o0 o1 o2 o3 ty2 m0 m1 m2
      split at h
      · rename_i hc
        obtain ⟨hn0, hn1, hn2, hn3, ht, ho0, ho1, ho2, ho3, e0, e1, e2, e3, e4, e5, e6, e7, e8, e9, hne0, hne1, hne2⟩ := id hc
        refine ⟨_, _, _, .int .i64 (clampI ((sval (pick4 n0 n1 n2 n3 k) * 36893488147419103232 + t * sval (pick4 o0 o1 o2 o3 k)) / 2 ^ 65)), laid3 [.int .i64 k, .ptr 0 0, .ptr 1 0, .ptr 2 0] rfl (by simp) m0 m1 m2 hne0 hne1 hne2 rfl rfl rfl, by first | exact if_pos hc | (simp only [m0, m1, m2]; exact if_pos hc), by simp, by simp, ?_⟩
        have rp := R8_pick4 hn0 hn1 hn2 hn3
        have ro := R8_pick4 ho0 ho1 ho2 ho3
        have bp := Bd_pick4 e2 e3 e4 e5 k
        have bo := Bd_pick4 e6 e7 e8 e9 k
        have u0 : Bd 128 (sval (pick4 n0 n1 n2 n3 k) * 36893488147419103232) := by simpa using bp.shl 65
        have u1 := (Bd.of ht).mul bo
        have v0 := u0.w (by decide)
        have v1 := u1.w (by decide)
        have v2 := ((u0.mono (by decide : 128 ≤ 192)).add u1).w (by decide)
        simp [Tryz.f172, e0, e1, R8_limb, rp, ro, cut4 e0 e1, ofS_in ht, fitI ht, v0, sval_limb v0, v1, sval_limb v1, v2, sval_limb v2, shlV, fitV]
      · simp at h
    · simp at h
  · simp at h

noncomputable def qofSpinS : Sum := fun args env _ => match args with
  | [.fn 172 [.ptr p 0, .ptr q 0, .ptr r 0]] => match env p, env q, env r with
    | some ⟨[.arr .u64 8 n0, .arr .u64 8 n1, .arr .u64 8 n2, .arr .u64 8 n3], _⟩, some ⟨[.int .i64 t], _⟩, some ⟨[.arr .u64 8 o0, .arr .u64 8 o1, .arr .u64 8 o2, .arr .u64 8 o3], _⟩ => open Classical in if R8 n0 ∧ R8 n1 ∧ R8 n2 ∧ R8 n3 ∧ InI t ∧ R8 o0 ∧ R8 o1 ∧ R8 o2 ∧ R8 o3 ∧ Bd 63 (sval n0) ∧ Bd 63 (sval n1) ∧ Bd 63 (sval n2) ∧ Bd 63 (sval n3) ∧ Bd 129 (sval o0) ∧ Bd 129 (sval o1) ∧ Bd 129 (sval o2) ∧ Bd 129 (sval o3) ∧ p ≠ q ∧ p ≠ r ∧ q ≠ r then .val (.agg [.int .i64 (clampI ((sval n0 * 36893488147419103232 + t * sval o0) / 2 ^ 65)), .int .i64 (clampI ((sval n1 * 36893488147419103232 + t * sval o1) / 2 ^ 65)), .int .i64 (clampI ((sval n2 * 36893488147419103232 + t * sval o2) / 2 ^ 65)), .int .i64 (clampI ((sval n3 * 36893488147419103232 + t * sval o3) / 2 ^ 65))]) [] [] else .fail
    | _, _, _ => .fail
  | _ => .fail
theorem qofSpin_ok : SumOk Tryz.prog 116 qofSpinS := by
  refine sum_read (L := fun _ => none) (n := 1) (S := stOf [(172, qspin1S)]) drawS Tryz.T_ok (stOf_ok (by simp [qspin1_ok])) Tryz.func116 rfl (by kernel_rfl) (by kernel_rfl) ?_
  intro args env nxt h
  unfold qofSpinS at h ⊢
  split at h
  · rename_i p q r
    split at h
    · rename_i n0 n1 n2 n3 ty0 t ty1 o0 o1 o2 o3 ty2 m0 m1 m2
      split at h
      · rename_i hc
        obtain ⟨hn0, hn1, hn2, hn3, ht, ho0, ho1, ho2, ho3, e0, e1, e2, e3, e4, e5, e6, e7, hne0, hne1, hne2⟩ := id hc
        refine ⟨_, _, _, .agg [.int .i64 (clampI ((sval n0 * 36893488147419103232 + t * sval o0) / 2 ^ 65)), .int .i64 (clampI ((sval n1 * 36893488147419103232 + t * sval o1) / 2 ^ 65)), .int .i64 (clampI ((sval n2 * 36893488147419103232 + t * sval o2) / 2 ^ 65)), .int .i64 (clampI ((sval n3 * 36893488147419103232 + t * sval o3) / 2 ^ 65))], laid3 [.fn 172 [.ptr 0 0, .ptr 1 0, .ptr 2 0]] rfl (by simp) m0 m1 m2 hne0 hne1 hne2 rfl rfl rfl, by first | exact if_pos hc | (simp only [m0, m1, m2]; exact if_pos hc), by simp, by simp, ?_⟩
        simp [Tryz.f116, hn0, hn1, hn2, hn3, ht, ho0, ho1, ho2, ho3, e0, e1, e2, e3, e4, e5, e6, e7, qspin1S, pick4]
      · simp at h
    · simp at h
  · simp at h

noncomputable def qSpinS : List AV → PR
  | [.agg [.int .i64 a, .int .i64 b, .int .i64 c, .int .i64 d], .agg [.int .i64 x, .int .i64 y, .int .i64 z], .int .i64 t] => open Classical in if InI a ∧ InI b ∧ InI c ∧ InI d ∧ InI x ∧ InI y ∧ InI z ∧ InI t then .val (.agg [.int .i64 (clampI ((a * 36893488147419103232 + t * qW 0 x y z a b c d) / 2 ^ 65)), .int .i64 (clampI ((b * 36893488147419103232 + t * qX 0 x y z a b c d) / 2 ^ 65)), .int .i64 (clampI ((c * 36893488147419103232 + t * qY 0 x y z a b c d) / 2 ^ 65)), .int .i64 (clampI ((d * 36893488147419103232 + t * qZ 0 x y z a b c d) / 2 ^ 65))]) else .fail
  | _ => .fail
@[simp] theorem qSpinS_val {a b c d x y z t : Int} (h : InI a ∧ InI b ∧ InI c ∧ InI d ∧ InI x ∧ InI y ∧ InI z ∧ InI t) : qSpinS [.agg [.int .i64 a, .int .i64 b, .int .i64 c, .int .i64 d], .agg [.int .i64 x, .int .i64 y, .int .i64 z], .int .i64 t] = .val (.agg [.int .i64 (clampI ((a * 36893488147419103232 + t * qW 0 x y z a b c d) / 2 ^ 65)), .int .i64 (clampI ((b * 36893488147419103232 + t * qX 0 x y z a b c d) / 2 ^ 65)), .int .i64 (clampI ((c * 36893488147419103232 + t * qY 0 x y z a b c d) / 2 ^ 65)), .int .i64 (clampI ((d * 36893488147419103232 + t * qZ 0 x y z a b c d) / 2 ^ 65))]) := if_pos h
set_option maxHeartbeats 4000000 in
theorem qSpin_ok : SumOk Tryz.prog 97 (pureS qSpinS) := by
  refine sum_fn (L := fun i => if i = 2 then some (.quiet 11) else none) (n := 1) (S := stOf [(114, pureS qrawS), (171, pureS qprodS), (116, qofSpinS)]) drawS Tryz.T_ok (stOf_ok (by simp [qraw_ok, qprod_ok, qofSpin_ok])) Tryz.func97 rfl (by kernel_rfl) (by kernel_rfl) ?_
    (by intro args v h; unfold qSpinS at h; split at h <;> (try split at h) <;> simp at h)
  intro args v h
  unfold qSpinS at h
  split at h
  · rename_i a b c d x y z t
    split at h
    · rename_i hc
      obtain ⟨ha, hb, hc, hd, hx, hy, hz, ht⟩ := hc
      cases h
      refine ⟨by simp, by simp, by simp, ?_⟩
      have bz : Bd 63 0 := Bd.zero
      obtain ⟨u0, u1, u2, u3⟩ := Bd_q bz (Bd.of hx) (Bd.of hy) (Bd.of hz) (Bd.of ha) (Bd.of hb) (Bd.of hc) (Bd.of hd)
      have v0 := u0.w (by decide)
      have v1 := u1.w (by decide)
      have v2 := u2.w (by decide)
      have v3 := u3.w (by decide)
      simp [Tryz.f97, ha, hb, hc, hd, hx, hy, hz, ht, fitI ha, fitI hb, fitI hc, fitI hd, fitI hx, fitI hy, fitI hz, R8_limb, Bd.of ha, Bd.of hb, Bd.of hc, Bd.of hd, Bd.of hx, Bd.of hy, Bd.of hz, bz, InI_zero, u0, u1, u2, u3, sval_limb v0, sval_limb v1, sval_limb v2, sval_limb v3, qofSpinS]
    · simp at h
  · simp at h

noncomputable def r5spunS : List AV → PR
  | [.int .i64 a, .arr .u64 8 f, .int .i64 t] => open Classical in if InI a ∧ R8 f ∧ InI t ∧ Bd 129 (sval f) then .val (.int .i64 (clampI ((a * 36893488147419103232 + t * sval f) / 2 ^ 65))) else .fail
  | _ => .fail
@[simp] theorem r5spunS_val {a t : Int} {f : Nat → Int} (h : InI a ∧ R8 f ∧ InI t ∧ Bd 129 (sval f)) : r5spunS [.int .i64 a, .arr .u64 8 f, .int .i64 t] = .val (.int .i64 (clampI ((a * 36893488147419103232 + t * sval f) / 2 ^ 65))) := if_pos h
theorem r5spun_ok : SumOk Tryz.prog 180 (pureS r5spunS) := by
  refine sum_fn (L := fun _ => none) (n := 1) (S := stOf [(199, pureS r2inS), (162, pureS r3plusS), (192, pureS r3rawS), (161, pureS r3timesS), (194, pureS r3twiceS)]) drawS Tryz.T_ok (stOf_ok (by simp [r2in_ok, r3plus_ok, r3raw_ok, r3times_ok, r3twice_ok])) Tryz.func180 rfl (by kernel_rfl) (by kernel_rfl) ?_
    (by intro args v h; unfold r5spunS at h; split at h <;> (try split at h) <;> simp at h)
  intro args v h
  unfold r5spunS at h
  split at h
  · rename_i a f t
    split at h
    · rename_i hc
      obtain ⟨ha, hf, ht, e0⟩ := hc
      cases h
      refine ⟨by simp, by simp, by simp, ?_⟩
      have u0 : Bd 128 (a * 36893488147419103232) := by simpa using (Bd.of ha).shl 65
      have u1 := (Bd.of ht).mul e0
      have v0 := u0.w (by decide)
      have v1 := u1.w (by decide)
      have v2 := ((u0.mono (by decide : 128 ≤ 192)).add u1).w (by decide)
      simp [Tryz.f180, ha, hf, ht, fitI ha, fitI ht, R8_limb, v0, sval_limb v0, v1, sval_limb v1, v2, sval_limb v2]
    · simp at h
  · simp at h

noncomputable def r5SpinS : List AV → PR
  | [.agg [.int .i64 a, .int .i64 b, .int .i64 c, .int .i64 d], .agg [.int .i64 x, .int .i64 y, .int .i64 z], .int .i64 t] => open Classical in if InI a ∧ InI b ∧ InI c ∧ InI d ∧ InI x ∧ InI y ∧ InI z ∧ InI t then .val (.agg [.int .i64 (clampI ((a * 36893488147419103232 + t * qW 0 x y z a b c d) / 2 ^ 65)), .int .i64 (clampI ((b * 36893488147419103232 + t * qX 0 x y z a b c d) / 2 ^ 65)), .int .i64 (clampI ((c * 36893488147419103232 + t * qY 0 x y z a b c d) / 2 ^ 65)), .int .i64 (clampI ((d * 36893488147419103232 + t * qZ 0 x y z a b c d) / 2 ^ 65))]) else .fail
  | _ => .fail
@[simp] theorem r5SpinS_val {a b c d x y z t : Int} (h : InI a ∧ InI b ∧ InI c ∧ InI d ∧ InI x ∧ InI y ∧ InI z ∧ InI t) : r5SpinS [.agg [.int .i64 a, .int .i64 b, .int .i64 c, .int .i64 d], .agg [.int .i64 x, .int .i64 y, .int .i64 z], .int .i64 t] = .val (.agg [.int .i64 (clampI ((a * 36893488147419103232 + t * qW 0 x y z a b c d) / 2 ^ 65)), .int .i64 (clampI ((b * 36893488147419103232 + t * qX 0 x y z a b c d) / 2 ^ 65)), .int .i64 (clampI ((c * 36893488147419103232 + t * qY 0 x y z a b c d) / 2 ^ 65)), .int .i64 (clampI ((d * 36893488147419103232 + t * qZ 0 x y z a b c d) / 2 ^ 65))]) := if_pos h
set_option maxHeartbeats 4000000 in
theorem r5Spin_ok : SumOk Tryz.prog 102 (pureS r5SpinS) := by
  refine sum_fn (L := fun i => if i = 2 then some (.quiet 29) else none) (n := 1) (S := stOf [(181, pureS r5WS), (182, pureS r5XS), (183, pureS r5YS), (184, pureS r5ZS), (180, pureS r5spunS)]) drawS Tryz.T_ok (stOf_ok (by simp [r5W_ok, r5X_ok, r5Y_ok, r5Z_ok, r5spun_ok])) Tryz.func102 rfl (by kernel_rfl) (by kernel_rfl) ?_
    (by intro args v h; unfold r5SpinS at h; split at h <;> (try split at h) <;> simp at h)
  intro args v h
  unfold r5SpinS at h
  split at h
  · rename_i a b c d x y z t
    split at h
    · rename_i hc
      obtain ⟨ha, hb, hc, hd, hx, hy, hz, ht⟩ := hc
      cases h
      refine ⟨by simp, by simp, by simp, ?_⟩
      have bz : Bd 63 0 := Bd.zero
      obtain ⟨u0, u1, u2, u3⟩ := Bd_q bz (Bd.of hx) (Bd.of hy) (Bd.of hz) (Bd.of ha) (Bd.of hb) (Bd.of hc) (Bd.of hd)
      have v0 := u0.w (by decide)
      have v1 := u1.w (by decide)
      have v2 := u2.w (by decide)
      have v3 := u3.w (by decide)
      simp [Tryz.f102, ha, hb, hc, hd, hx, hy, hz, ht, R8_limb, InI_zero, u0, u1, u2, u3, sval_limb v0, sval_limb v1, sval_limb v2, sval_limb v3]
    · simp at h
  · simp at h

end Go.X
