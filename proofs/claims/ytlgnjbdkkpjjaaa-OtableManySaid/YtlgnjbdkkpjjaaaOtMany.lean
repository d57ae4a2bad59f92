/- The walk of the statement OtableMany. -/
import Derived.Test.YtlgnjbdkkpjjaaaOtN
import Derived.Lib.MinMax
set_option linter.unusedVariables false
set_option linter.unusedSimpArgs false
namespace Go.Proofs.Ytlgnjbdkkpjjaaa
open Go.RowKit Go.Sort

/-- The entries of so many numbers from one on. -/
abbrev eM (j : Nat) : Ent := ⟨kI j, (0, 0, ⟨#[]⟩), 0, false⟩
def mA : Nat → Nat → List Ent
  | _, 0 => []
  | lo, k + 1 => eM lo :: mA (lo + 1) k
theorem mA_len (lo k : Nat) : (mA lo k).length = k := by
  induction k generalizing lo with
  | zero => rfl
  | succ k ih => rw [mA, List.length_cons, ih]
theorem mA_key (j i : Nat) : isKey (kI j) (eM i) = decide (i = j) := by
  show (!false && decide (norm (kI i) = norm (kI j))) = _
  have : (norm (kI i) = norm (kI j)) ↔ i = j := by
    constructor
    · intro h
      have : (i : Int) = (j : Int) := congrArg (fun z : K3 => z.2.1) h
      omega
    · rintro rfl; rfl
  simp only [Bool.not_false, Bool.true_and, this]
theorem mA_no (lo k j : Nat) (h : j < lo ∨ lo + k ≤ j) : ∀ x ∈ mA lo k, isKey (kI j) x = false := by
  induction k generalizing lo with
  | zero => intro x hx; cases hx
  | succ k ih =>
    intro x hx
    rcases List.mem_cons.1 hx with rfl | hx
    · rw [mA_key, decide_eq_false (by omega)]
    · exact ih (lo + 1) (by omega) x hx
theorem mA_snoc (lo k : Nat) : mA lo k ++ [eM (lo + k)] = mA lo (k + 1) := by
  induction k generalizing lo with
  | zero => rfl
  | succ k ih =>
    rw [mA, List.cons_append, show lo + (k + 1) = lo + 1 + k by omega, ih, mA]
    rfl
theorem mA_put (lo k j : Nat) (h : j = lo + k) : putA (kI j) (0, 0, ⟨#[]⟩) 0 (mA lo k) = mA lo (k + 1) := by
  have h1 : (mA lo k).any (isKey (kI j)) = false := by
    rw [List.any_eq_false]; intro x hx; rw [mA_no lo k j (by omega) x hx]; simp
  rw [putA, if_neg (by rw [h1]; simp), ← mA_snoc, ← h]; rfl
theorem mA_del (lo k : Nat) : delA (kI lo) (mA lo (k + 1)) = mA (lo + 1) k := by
  rw [mA, delA, List.filter_cons, mA_key, decide_eq_true rfl]
  exact delA_no (mA_no (lo + 1) k lo (by omega))
theorem mA_get (lo k p : Nat) (h : p < k) : (mA lo k)[p]? = some (eM (lo + p)) := by
  induction k generalizing lo p with
  | zero => omega
  | succ k ih =>
    cases p with
    | zero => rfl
    | succ p =>
      rw [mA, List.getElem?_cons_succ, ih _ _ (by omega), show lo + 1 + p = lo + (p + 1) by omega]
theorem delD_0 (k : K3) (A : List Ent) (c : Nat) : [(c, 0)].map (delD k A) = [(c, 0)] := rfl

set_option maxHeartbeats 8000000 in
set_option maxRecDepth 100000 in
theorem many_core (n keep : Int) (m q : Nat) (w : World) (hm : m < 3000) (hq : 1 ≤ q ∧ q ≤ 40)
    (h1 : (wrap64 (n.tmod 3000 + 3000)).tmod 3000 = (m : Int)) (h2 : wrap64 ((wrap64 (keep.tmod 40 + 40)).tmod 40 + 1) = (q : Int)) :
    Calls Try.prog 4 #[.int .i64 n, .int .i64 keep] w (Ret (.bool true) w) := by
  go_enter Try.func4, Try.ntmps4
  go_wp2_with fail
  refine (fit_any w).mono ?_
  rintro e w1 ⟨rfl, b⟩
  go_wp2_with fail
  refine (new_st w w1 b).mono ?_
  rintro e w2 ⟨rfl, O2, S2, -, -⟩
  generalize w1.heap.size = T at *
  clear b
  go_wp2_with fail
  refine (cursor_st T _ _ O2 w w2 S2 (by decide)).mono ?_
  rintro e w3 ⟨rfl, O3, S3, -⟩
  rw [List.nil_append] at S3
  generalize w2.heap.size = c at *
  clear S2
  go_wp2_with fail
  have HS := Lib.hid S3
  clear S3 h1 h2
  go_loopw [33] (fun i wr => ∃ lo k : Nat, lo + k ≤ m ∧ i = .int .i64 ((lo + k : Nat) : Int) ∧ k ≤ q ∧ (lo = 0 ∨ k = q) ∧ ∃ O, Hid (St w wr T (mA lo k) [(c, 0)] O)) (fun i _ => m - (intOf i).toNat)
  case atStart => exact ⟨0, 0, by omega, rfl, by omega, .inl rfl, _, HS⟩
  case round =>
    clear HS
    obtain ⟨lo, k, hle, rfl, hk, hlk, O, HR⟩ := hrel
    by_cases hlt : lo + k < m
    · obtain ⟨j, hj⟩ : ∃ j, lo + k = j := ⟨_, rfl⟩
      rw [hj] at hlt
      rw [hj]
      have t1 : decide ((j : Int) < (m : Int)) = true := by simp; omega
      have aw : IntKind.i64.wrap ((j : Int) + 1) = (j : Int) + 1 := IntWalk.i64_in _ (by omega)
      have hP : ∀ wr, Hid (St w wr T (mA lo k) [(c, 0)] O) → Calls Try.prog 12 #[.pointer (some ⟨T, 0, none⟩), VK (kI j), VK (0, 0, ⟨#[]⟩), .int .i64 0] wr fun e w' => e = .returned (.tuple #[]) ∧ ∃ O', Hid (St w w' T (mA lo (k + 1)) [(c, 0)] O') := fun wr h =>
        (put_st T _ _ O (kI j) (0, 0, ⟨#[]⟩) 0 w wr h.out (Nat.zero_le _) (by rw [mA_len]; omega) (by simp)).mono fun e w' ⟨he, O', S', _⟩ => ⟨he, O', Lib.hid (by rw [mA_put lo k j hj.symm] at S'; exact S')⟩
      go_wp2_with fail
      refine (hP wr HR).mono ?_
      rintro e w4 ⟨rfl, O4, S4⟩
      clear HR hP
      by_cases hkq : k = q
      · have t2 : decide ((q : Int) ≤ (j : Int)) = true := by simp; omega
        have bw : IntKind.i64.wrap ((j : Int) - (q : Int)) = (lo : Int) := by rw [IntWalk.i64_in _ (by omega)]; omega
        go_wp2_with fail
        refine (delete_st T _ _ O4 (kI lo) w w4 S4.out (Nat.zero_le _) (by rw [mA_len]; omega) (by simp) (by simp)).mono ?_
        rintro e w5 ⟨rfl, O5, S5, -⟩
        rw [mA_del, delD_0] at S5
        have S5 := Lib.hid S5
        clear S4
        go_wp2_with fail
        go_roundw
        case rel => exact ⟨lo + 1, k, by omega, by first | (rw [show lo + 1 + k = j + 1 by omega]; rfl) | (congr 1; omega), hk, .inr hkq, _, S5⟩
        case measure => simp [intOf]; omega
      · have t2 : decide ((q : Int) ≤ (j : Int)) = false := by simp; omega
        go_wp2_with fail
        go_roundw
        case rel => exact ⟨lo, k + 1, by omega, by first | (rw [show lo + (k + 1) = j + 1 by omega]; rfl) | (congr 1; omega), by omega, by omega, _, S4⟩
        case measure => simp [intOf]; omega
    · have hj : lo + k = m := by omega
      rw [hj]
      have t1 : decide ((m : Int) < (m : Int)) = false := by simp
      have cw : IntKind.i64.wrap ((m : Int) - (q : Int)) = (m : Int) - (q : Int) := IntWalk.i64_in _ (by omega)
      go_upto_region 14 with fail
      have mx : max ((m : Int) - (q : Int)) 0 = (lo : Int) := by omega
      rw [mx]
      have dw : IntKind.i64.wrap ((m : Int) - (lo : Int)) = (k : Int) := by rw [IntWalk.i64_in _ (by omega)]; omega
      have ew : IntKind.i64.wrap (5 * (k : Int)) = 5 * (k : Int) := IntWalk.i64_in _ (by omega)
      have fw : IntKind.i64.wrap (5 * (k : Int) + 17) = 5 * (k : Int) + 17 := IntWalk.i64_in _ (by omega)
      have HL := tlen_any T _ _ O wr HR.out.tab
      rw [mA_len] at HL
      have HT := storage_any T _ _ O wr HR.out.tab (by rw [mA_len]; omega) (by simp)
      clear cw mx t1
      go_wp2_with fail
      refine HL.mono ?_
      rintro e w6 ⟨rfl, rfl⟩
      go_wp2_with fail
      refine HT.mono ?_
      rintro e w7 ⟨z, rfl, hz, u, rfl⟩
      rw [mA_len] at hz
      have t3 : decide ((z : Int) > 5 * (k : Int) + 17) = false := by simp at hz ⊢; omega
      have t4 : decide (5 * (k : Int) + 17 < (z : Int)) = false := t3
      have HR := Lib.hid (HR.out.below (show Below wr.heap.size wr (wr.drewN u) from ⟨rfl, rfl, rfl, Nat.le_refl _, fun _ _ => rfl⟩))
      generalize wr.drewN u = w7 at *
      clear HL HT hz
      go_upto_region 17 with fail
      go_loopw [9] (fun i wr => ∃ p : Nat, p ≤ k ∧ i = .int .i64 ((lo + p : Nat) : Int) ∧ ∃ O, Hid (St w wr T (mA lo k) [(c, p)] O)) (fun i _ => m - (intOf i).toNat)
      case atStart => exact ⟨0, Nat.zero_le _, rfl, _, HR⟩
      case round =>
        clear HR t3 t4 dw ew fw
        obtain ⟨p, hp, rfl, O', HR⟩ := hrel
        by_cases hlt : p < k
        · obtain ⟨j, hjj⟩ : ∃ j, lo + p = j := ⟨_, rfl⟩
          have hP : ∀ wr, Hid (St w wr T (mA lo k) [(c, p)] O') → Calls Try.prog 14 #[.pointer (some ⟨c, 0, none⟩)] wr fun e w' => e = .returned (.tuple #[VK (kI j), VS 0 0 ⟨#[]⟩, .int .i64 0, .bool true]) ∧ ∃ O', Hid (St w w' T (mA lo k) [(c, p + 1)] O') := fun wr h =>
            (next_st c T p _ _ O' w wr h.out (by simp) (by rw [mA_len]; omega) (by simp) (eM j) (by rw [mA_get lo k p hlt, hjj])).mono fun e w' ⟨he, O', S', _⟩ => ⟨he, O', Lib.hid (by rw [bump_1] at S'; exact S')⟩
          rw [hjj]
          have t1 : decide ((j : Int) < (m : Int)) = true := by simp; omega
          have aw : IntKind.i64.wrap ((j : Int) + 1) = (j : Int) + 1 := IntWalk.i64_in _ (by omega)
          go_wp2_with fail
          refine (hP _ HR).mono ?_
          rintro e w8 ⟨rfl, O8, S8⟩
          clear HR hP
          obtain ⟨S9, -, BK⟩ := two_bx S8.out (SC 3 (j : Int) ⟨#[]⟩) (SC 0 0 ⟨#[]⟩)
          have BK := BK _ _ rfl
          have S9 := Lib.hid S9
          clear S8
          go_upto_region 20 with fail
          generalize w8.heap.size = kb at *
          generalize ((w8.alloc (SC 3 (j : Int) ⟨#[]⟩)).alloc (SC 0 0 ⟨#[]⟩)) = w9 at *
          have k1 : w9.cell? ⟨kb, 1, none⟩ = some (.int .i64 (j : Int)) := by rw [BK.blk.cell]; rfl
          clear BK
          go_wp2_with fail
          go_roundw
          case rel => exact ⟨p + 1, by omega, by first | (rw [show lo + (p + 1) = j + 1 by omega]; rfl) | (congr 1; omega), _, S9⟩
          case measure => simp [intOf]; omega
        · have hpk : p = k := by omega
          subst hpk
          rw [hj]
          have t1 : decide ((m : Int) < (m : Int)) = false := by simp
          go_upto_region 22 with fail
          have hN := next_end c T p _ _ O' w wr HR.out (List.mem_singleton.2 rfl) (by rw [mA_len]; omega) (by simp) (by rw [List.getElem?_eq_none (by rw [mA_len]; exact Nat.le_refl _)])
          go_wp2_with fail
          refine hN.mono ?_
          rintro e w8 ⟨rfl, O8, D8, S8, -, -, ⟨aa, BC⟩, -⟩
          obtain ⟨S9, P9, -⟩ := two_bx S8 (SC 0 0 ⟨#[]⟩) (SC 0 0 ⟨#[]⟩)
          have BC := BC.stp P9
          have be := S9.bel
          clear S8 S9 P9 hN HR
          go_upto_region 23 with fail
          generalize w8.heap.size = kb at *
          generalize ((w8.alloc (SC 0 0 ⟨#[]⟩)).alloc (SC 0 0 ⟨#[]⟩)) = w9 at *
          go_wp2_with fail
          refine (open_no c aa w9 BC.blk).mono ?_
          rintro e w10 ⟨rfl, rfl⟩
          go_wp2
          go_ret
          exact ⟨by simp, be⟩
theorem many_said (n keep : Int) (w : World) (wn : (Lit.int .i64 n).wf = true) (wk : (Lit.int .i64 keep).wf = true) :
    Calls Try.prog 4 #[.int .i64 n, .int .i64 keep] w fun e w' => e = .returned (.bool true) ∧ Below w.heap.size w w' := by
  obtain ⟨m, hm, h1⟩ : ∃ m : Nat, m < 3000 ∧ (wrap64 (n.tmod 3000 + 3000)).tmod 3000 = (m : Int) := by
    have h2 := Int.tmod_lt_of_pos n (show (0 : Int) < 3000 by decide)
    have h3 := Int.lt_tmod_of_pos n (show (0 : Int) < 3000 by decide)
    generalize n.tmod 3000 = r at *
    have e : wrap64 (r + 3000) = r + 3000 := by unfold wrap64; omega
    rw [e, Int.tmod_eq_emod_of_nonneg (by omega)]
    exact ⟨((r + 3000) % 3000).toNat, by omega, by omega⟩
  obtain ⟨q, hq, h2⟩ : ∃ q : Nat, (1 ≤ q ∧ q ≤ 40) ∧ wrap64 ((wrap64 (keep.tmod 40 + 40)).tmod 40 + 1) = (q : Int) := by
    have h2 := Int.tmod_lt_of_pos keep (show (0 : Int) < 40 by decide)
    have h3 := Int.lt_tmod_of_pos keep (show (0 : Int) < 40 by decide)
    generalize keep.tmod 40 = r at *
    have e : wrap64 (r + 40) = r + 40 := by unfold wrap64; omega
    rw [e, Int.tmod_eq_emod_of_nonneg (by omega)]
    have e2 : wrap64 ((r + 40) % 40 + 1) = (r + 40) % 40 + 1 := by unfold wrap64; omega
    rw [e2]
    exact ⟨((r + 40) % 40 + 1).toNat, by omega, by omega⟩
  exact many_core n keep m q w hm hq h1 h2
end Go.Proofs.Ytlgnjbdkkpjjaaa
