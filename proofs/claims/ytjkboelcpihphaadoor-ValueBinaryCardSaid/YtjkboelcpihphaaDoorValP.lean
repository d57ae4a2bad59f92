/- The reference's Binary, of any two values. -/
import Derived.Test.YtjkboelcpihphaaDoorValM
import Derived.Test.YtjkboelcpihphaaDoorValO
set_option linter.unusedVariables false
set_option linter.unusedSimpArgs false
namespace Go.Proofs.YtjkboelcpihphaaDoor
open Go.RowKit

theorem rreckon_any (op : Nat) (ho : op ≤ 4 ∨ op = 11) (p q p' q' : Int) (ha : IsNum p q) (hb : IsNum p' q') (w : World) : Calls Tryd.prog 48 #[.string (opS op), OV p q, OV p' q'] w (Ret (R4V (reckF op p q p' q')) w) := by
  obtain ⟨⟨p0, q0, d0, s0, m0, k0, e0, D0, U0, Z0⟩, ⟨p1, q1, d1, s1, m1, k1, e1, D1, U1, Z1⟩, ⟨p2, q2, d2, s2, m2, k2, e2, D2, U2, Z2⟩, ⟨p3, q3, d3, s3, m3, k3, e3, D3, U3, Z3⟩⟩ := do_all p q p' q' ha hb
  obtain ⟨dr, mr, sr, CQ, hv, hr1, hr2⟩ := rem_all p q p' q' ha hb
  have ho2 : op = 0 ∨ op = 1 ∨ op = 2 ∨ op = 3 ∨ op = 4 ∨ op = 11 := by omega
  rcases ho2 with rfl | rfl | rfl | rfl | rfl | rfl
  · show Calls _ _ _ _ (Ret (R4V (arith (addR p q p' q'))) w)
    rw [e0]
    cases k0
    · exact rreck_add_false _ _ _ _ _ _ _ _ _ w D0
    · exact rreck_add_true _ _ _ _ _ _ _ _ _ _ _ w D0 (U0 rfl)
  · show Calls _ _ _ _ (Ret (R4V (arith (subR p q p' q'))) w)
    rw [e1]
    cases k1
    · exact rreck_sub_false _ _ _ _ _ _ _ _ _ w D1
    · exact rreck_sub_true _ _ _ _ _ _ _ _ _ _ _ w D1 (U1 rfl)
  · show Calls _ _ _ _ (Ret (R4V (arith (mulR p q p' q'))) w)
    rw [e2]
    cases k2
    · exact rreck_mul_false _ _ _ _ _ _ _ _ _ w D2
    · exact rreck_mul_true _ _ _ _ _ _ _ _ _ _ _ w D2 (U2 rfl)
  · show Calls _ _ _ _ (Ret (R4V (arith (divR p q p' q'))) w)
    rw [e3]
    cases k3
    · exact rreck_div_false _ _ _ _ _ _ _ _ _ w D3
    · exact rreck_div_true _ _ _ _ _ _ _ _ _ _ _ w D3 (U3 rfl)
  · show Calls _ _ _ _ (Ret (R4V ((remR p q p' q').1, (remR p q p' q').2, ⟨#[]⟩, 0)) w)
    rw [← hv]
    exact rreck_rem _ _ _ _ _ _ _ _ _ _ _ w CQ (fun W => val_any dr mr sr W hr1 hr2)
  · exact rreck_q _ _ _ _ _ _ w
section
variable {k n : Int} {s : ByteArray} {k' n' : Int} {s' : ByteArray}
theorem rgen_num (h : IsV k n s) (h' : IsV k' n' s') (op : Nat) (o : ByteArray) (w : World) (f0 : (o.toList == [61, 61, 61]) = false) (f1 : (o.toList == [33, 61, 61]) = false) (f2 : (o.toList == [60]) = false) (f3 : (o.toList == [62]) = false) (f4 : (o.toList == [60, 61]) = false) (f5 : (o.toList == [62, 61]) = false) (f6 : (o.toList == [43]) = false)
    (CR : ∀ p q p' q', IsNum p q → IsNum p' q' → ∀ W, Calls Tryd.prog 48 #[.string o, OV p q, OV p' q'] W (Ret (R4V (reckF op p q p' q')) W)) :
    Calls Tryd.prog 28 #[.string o, VS k n s, VS k' n' s'] w (Ret (R4V (numOp op k n k' n')) w) := by
  have C1 := fun W => rnumber_any k n s W h
  have C2 := fun W => rnumber_any k' n' s' W h'
  unfold numOp
  by_cases e1 : (convF k n).2.2 ≠ 0
  · rw [if_pos e1]
    exact rb_num_e1 o k n s k' n' s' _ _ _ w f0 f1 f2 f3 f4 f5 f6 e1 C1
  · rw [if_neg e1]
    have z1 : (convF k n).2.2 = 0 := by simpa using e1
    unfold NF at C1 C2
    rw [z1] at C1
    by_cases e2 : (convF k' n').2.2 ≠ 0
    · rw [if_pos e2]
      exact rb_num_e2 o k n s k' n' s' _ _ _ _ _ w f0 f1 f2 f3 f4 f5 f6 e2 C1 C2
    · rw [if_neg e2]
      have z2 : (convF k' n').2.2 = 0 := by simpa using e2
      rw [z2] at C2
      exact rb_core o k n s k' n' s' _ _ _ _ _ _ _ _ _ _ false _ _ _ _ 0 w f0 f1 (Lib.hid (.inl f6)) (Lib.hid (.inl ⟨rfl, f2, f3, f4, f5⟩)) (Lib.hid (.inl rfl)) C1 C2 (fun W => rOf_any (conv_num h z1) W) (fun W => rOf_any (conv_num h' z2) W) (fun _ W => CR _ _ _ _ (conv_num h z1) (conv_num h' z2) W) (fun e => by cases e) (Lib.hid fun e => by cases e)
theorem rgen_plus (h : IsV k n s) (h' : IsV k' n' s') (op : Nat) (o : ByteArray) (w : World) (f0 : (o.toList == [61, 61, 61]) = false) (f1 : (o.toList == [33, 61, 61]) = false) (f2 : (o.toList == [60]) = false) (f3 : (o.toList == [62]) = false) (f4 : (o.toList == [60, 61]) = false) (f5 : (o.toList == [62, 61]) = false) (fp : (o.toList == [43]) = true) (fk : (k == 7) = false) (fk' : (k' == 7) = false)
    (CR : ∀ p q p' q', IsNum p q → IsNum p' q' → ∀ W, Calls Tryd.prog 48 #[.string o, OV p q, OV p' q'] W (Ret (R4V (reckF op p q p' q')) W)) :
    Calls Tryd.prog 28 #[.string o, VS k n s, VS k' n' s'] w (Ret (R4V (numOp op k n k' n')) w) := by
  have C1 := fun W => rnumber_any k n s W h
  have C2 := fun W => rnumber_any k' n' s' W h'
  unfold numOp
  by_cases e1 : (convF k n).2.2 ≠ 0
  · rw [if_pos e1]
    exact rb_plus_e1 o k n s k' n' s' _ _ _ w f0 f1 f2 f3 f4 f5 fp fk fk' e1 C1
  · rw [if_neg e1]
    have z1 : (convF k n).2.2 = 0 := by simpa using e1
    unfold NF at C1 C2
    rw [z1] at C1
    by_cases e2 : (convF k' n').2.2 ≠ 0
    · rw [if_pos e2]
      exact rb_plus_e2 o k n s k' n' s' _ _ _ _ _ w f0 f1 f2 f3 f4 f5 fp fk fk' e2 C1 C2
    · rw [if_neg e2]
      have z2 : (convF k' n').2.2 = 0 := by simpa using e2
      rw [z2] at C2
      exact rb_core o k n s k' n' s' _ _ _ _ _ _ _ _ _ _ false _ _ _ _ 0 w f0 f1 (Lib.hid (.inr ⟨fp, fk, fk'⟩)) (Lib.hid (.inl ⟨rfl, f2, f3, f4, f5⟩)) (Lib.hid (.inl rfl)) C1 C2 (fun W => rOf_any (conv_num h z1) W) (fun W => rOf_any (conv_num h' z2) W) (fun _ W => CR _ _ _ _ (conv_num h z1) (conv_num h' z2) W) (fun e => by cases e) (Lib.hid fun e => by cases e)
theorem cmpL_range (a b : List Nat) : Tx.cmpL a b = -1 ∨ Tx.cmpL a b = 0 ∨ Tx.cmpL a b = 1 := by
  induction a generalizing b with
  | nil => cases b <;> simp [Tx.cmpL]
  | cons x a ih =>
    cases b with
    | nil => simp [Tx.cmpL]
    | cons y b =>
      have := ih b
      simp only [Tx.cmpL]
      by_cases h1 : x < y
      · simp [h1]
      · by_cases h2 : y < x
        · simp [h1, h2]
        · simp only [if_neg h1, if_neg h2]; exact this
theorem cmp_law {ka na kb nb : Int} (ha : IsNum ka na) (hb : IsNum kb nb) (c : Int) (l m ok : Bool) (hl : (lessR ka na kb nb).1 = l) (hm : (lessR kb nb ka na).1 = m) (hok : (lessR ka na kb nb).2 = ok)
    (h3 : cmpR ((ofR ka na).1 == 110) ((ofR kb nb).1 == 110) (rrR (ofR ka na).1 (ofR ka na).2.1 (ofR ka na).2.2) (rrR (ofR kb nb).1 (ofR kb nb).2.1 (ofR kb nb).2.2) = c) :
    (c = -1 ∧ l = true ∧ m = false ∧ ok = true) ∨ (c = 0 ∧ l = false ∧ m = false ∧ ok = true) ∨ (c = 1 ∧ l = false ∧ m = true ∧ ok = true) ∨ (c = 2 ∧ l = false ∧ m = false ∧ ok = false) := by
  obtain ⟨f1, _, _, f4⟩ := vofR_facts ha
  obtain ⟨g1, _, _, g4⟩ := vofR_facts hb
  rw [f1, g1] at h3
  unfold lessR at hl hm hok
  by_cases h4 : (ka == 4 || kb == 4) = true
  · have h4' : (kb == 4 || ka == 4) = true := by rw [Bool.or_comm]; exact h4
    rw [if_pos h4] at hl hok
    rw [if_pos h4'] at hm
    unfold cmpR at h3
    rw [if_pos h4] at h3
    exact .inr (.inr (.inr ⟨h3.symm, hl.symm, hm.symm, hok.symm⟩))
  · have h4' : ¬ (kb == 4 || ka == 4) = true := by rw [Bool.or_comm]; exact h4
    rw [if_neg h4] at hl hok
    rw [if_neg h4'] at hm
    have ha4 : ka ≠ 4 := fun e => h4 (by simp [e])
    have hb4 : kb ≠ 4 := fun e => h4 (by simp [e])
    unfold cmpR at h3
    rw [if_neg h4, f4 ha4, g4 hb4] at h3
    simp only at hl hm hok
    generalize rankR ka na = x at *
    generalize rankR kb nb = y at *
    rcases Int.lt_trichotomy x y with h | h | h
    · rw [if_pos h] at h3
      exact .inl ⟨h3.symm, by rw [← hl]; simpa using h, by rw [← hm]; simp; omega, hok.symm⟩
    · subst h
      simp at h3 hl hm
      exact .inr (.inl ⟨h3.symm, by simp [hl], by simp [hm], hok.symm⟩)
    · rw [if_neg (by omega), if_pos h] at h3
      exact .inr (.inr (.inl ⟨h3.symm, by rw [← hl]; simp; omega, by rw [← hm]; simpa using h, hok.symm⟩))
theorem rord_lt {u u' : List Nat} (h : IsV k n s) (h' : IsV k' n' s') (hu : s = Tx.uS u) (hf : Tx.Fits u) (hu' : s' = Tx.uS u') (hf' : Tx.Fits u') (w : World) :
    Calls Tryd.prog 28 #[.string (opS 5), VS k n s, VS k' n' s'] w (Ret (R4V (cmpF 5 k n u k' n' u')) w) := by
  unfold cmpF
  have hsz := h.size
  have hsz' := h'.size
  by_cases hs : (k == 7 && k' == 7) = true
  · rw [if_pos hs]
    obtain ⟨rfl, rfl⟩ : k = 7 ∧ k' = 7 := by simpa using hs
    subst hu hu'
    rw [Tx.uS_size] at hsz hsz'
    refine rb_lt_str n n' u u' (Tx.cmpL u u') (cmpB 5 (Tx.cmpL u u')) (Lib.hid rfl) hf hf' (by omega) (by omega) (Lib.hid ?_) w
    rcases cmpL_range u u' with e | e | e <;> rw [e]
    · exact .inl ⟨rfl, rfl⟩
    · exact .inr (.inl ⟨rfl, rfl⟩)
    · exact .inr (.inr ⟨rfl, rfl⟩)
  · rw [if_neg hs]
    have C1 := fun W => rnumber_any k n s W h
    have C2 := fun W => rnumber_any k' n' s' W h'
    by_cases hk : (k == 7) = true
    · have hk' : (k' == 7) = false := by revert hs; rw [hk]; simp
      obtain rfl : k = 7 := by simpa using hk
      rw [if_pos (show (convF 7 n).2.2 ≠ 0 by show (2 : Int) ≠ 0; decide)]
      exact rb_lt_s_e1 7 n s k' n' s' _ _ _ w hk hk' (show ¬ (convF 7 n).2.2 = 0 by show ¬ (2 : Int) = 0; decide) C1
    · have hk : (k == 7) = false := by simpa using hk
      by_cases e1 : (convF k n).2.2 ≠ 0
      · rw [if_pos e1]
        exact rb_lt_e1 k n s k' n' s' _ _ _ w hk e1 C1
      · rw [if_neg e1]
        have z1 : (convF k n).2.2 = 0 := by simpa using e1
        unfold NF at C1 C2
        rw [z1] at C1
        by_cases e2 : (convF k' n').2.2 ≠ 0
        · rw [if_pos e2]
          exact rb_lt_e2 k n s k' n' s' _ _ _ _ _ w hk e2 C1 C2
        · rw [if_neg e2]
          have z2 : (convF k' n').2.2 = 0 := by simpa using e2
          rw [z2] at C2
          have ha := conv_num h z1
          have hb := conv_num h' z2
          refine rb_core (opS 5) k n s k' n' s' _ _ _ _ _ _ _ _ _ _ true 2 (tN (ordB 5 (lessR (convF k n).1 (convF k n).2.1 (convF k' n').1 (convF k' n').2.1).1 (lessR (convF k' n').1 (convF k' n').2.1 (convF k n).1 (convF k n).2.1).1 (lessR (convF k n).1 (convF k n).2.1 (convF k' n').1 (convF k' n').2.1).2)) ⟨#[]⟩ 0 _ w (by first | (simp [opS, go_sem]; done) | decide +kernel) (by first | (simp [opS, go_sem]; done) | decide +kernel) (Lib.hid (.inl (by first | (simp [opS, go_sem]; done) | decide +kernel))) (Lib.hid (.inr ⟨rfl, .inl rfl⟩)) (Lib.hid (.inr hk)) C1 C2 (fun W => rOf_any ha W) (fun W => rOf_any hb W) (fun e => by cases e) (fun _ W => rLess_any ha hb W) (Lib.hid fun _ => ⟨_, rfl, rfl, rfl, rfl, ?_⟩)
          rcases cmp_law ha hb _ _ _ _ rfl rfl rfl rfl with ⟨c1, l1, m1, o1⟩ | ⟨c1, l1, m1, o1⟩ | ⟨c1, l1, m1, o1⟩ | ⟨c1, l1, m1, o1⟩ <;> rw [c1, l1, m1, o1]
          · exact .inl ( ⟨rfl, .inl ⟨rfl, rfl⟩⟩)
          · exact .inl ( ⟨rfl, .inr (.inl ⟨rfl, rfl⟩)⟩)
          · exact .inl ( ⟨rfl, .inr (.inr (.inl ⟨rfl, rfl⟩))⟩)
          · exact .inl ( ⟨rfl, .inr (.inr (.inr ⟨rfl, rfl⟩))⟩)
theorem rord_gt {u u' : List Nat} (h : IsV k n s) (h' : IsV k' n' s') (hu : s = Tx.uS u) (hf : Tx.Fits u) (hu' : s' = Tx.uS u') (hf' : Tx.Fits u') (w : World) :
    Calls Tryd.prog 28 #[.string (opS 6), VS k n s, VS k' n' s'] w (Ret (R4V (cmpF 6 k n u k' n' u')) w) := by
  unfold cmpF
  have hsz := h.size
  have hsz' := h'.size
  by_cases hs : (k == 7 && k' == 7) = true
  · rw [if_pos hs]
    obtain ⟨rfl, rfl⟩ : k = 7 ∧ k' = 7 := by simpa using hs
    subst hu hu'
    rw [Tx.uS_size] at hsz hsz'
    refine rb_gt_str n n' u u' (Tx.cmpL u u') (cmpB 6 (Tx.cmpL u u')) (Lib.hid rfl) hf hf' (by omega) (by omega) (Lib.hid ?_) w
    rcases cmpL_range u u' with e | e | e <;> rw [e]
    · exact .inl ⟨rfl, rfl⟩
    · exact .inr (.inl ⟨rfl, rfl⟩)
    · exact .inr (.inr ⟨rfl, rfl⟩)
  · rw [if_neg hs]
    have C1 := fun W => rnumber_any k n s W h
    have C2 := fun W => rnumber_any k' n' s' W h'
    by_cases hk : (k == 7) = true
    · have hk' : (k' == 7) = false := by revert hs; rw [hk]; simp
      obtain rfl : k = 7 := by simpa using hk
      rw [if_pos (show (convF 7 n).2.2 ≠ 0 by show (2 : Int) ≠ 0; decide)]
      exact rb_gt_s_e1 7 n s k' n' s' _ _ _ w hk hk' (show ¬ (convF 7 n).2.2 = 0 by show ¬ (2 : Int) = 0; decide) C1
    · have hk : (k == 7) = false := by simpa using hk
      by_cases e1 : (convF k n).2.2 ≠ 0
      · rw [if_pos e1]
        exact rb_gt_e1 k n s k' n' s' _ _ _ w hk e1 C1
      · rw [if_neg e1]
        have z1 : (convF k n).2.2 = 0 := by simpa using e1
        unfold NF at C1 C2
        rw [z1] at C1
        by_cases e2 : (convF k' n').2.2 ≠ 0
        · rw [if_pos e2]
          exact rb_gt_e2 k n s k' n' s' _ _ _ _ _ w hk e2 C1 C2
        · rw [if_neg e2]
          have z2 : (convF k' n').2.2 = 0 := by simpa using e2
          rw [z2] at C2
          have ha := conv_num h z1
          have hb := conv_num h' z2
          refine rb_core (opS 6) k n s k' n' s' _ _ _ _ _ _ _ _ _ _ true 2 (tN (ordB 6 (lessR (convF k n).1 (convF k n).2.1 (convF k' n').1 (convF k' n').2.1).1 (lessR (convF k' n').1 (convF k' n').2.1 (convF k n).1 (convF k n).2.1).1 (lessR (convF k n).1 (convF k n).2.1 (convF k' n').1 (convF k' n').2.1).2)) ⟨#[]⟩ 0 _ w (by first | (simp [opS, go_sem]; done) | decide +kernel) (by first | (simp [opS, go_sem]; done) | decide +kernel) (Lib.hid (.inl (by first | (simp [opS, go_sem]; done) | decide +kernel))) (Lib.hid (.inr ⟨rfl, .inr (.inl rfl)⟩)) (Lib.hid (.inr hk)) C1 C2 (fun W => rOf_any ha W) (fun W => rOf_any hb W) (fun e => by cases e) (fun _ W => rLess_any ha hb W) (Lib.hid fun _ => ⟨_, rfl, rfl, rfl, rfl, ?_⟩)
          rcases cmp_law ha hb _ _ _ _ rfl rfl rfl rfl with ⟨c1, l1, m1, o1⟩ | ⟨c1, l1, m1, o1⟩ | ⟨c1, l1, m1, o1⟩ | ⟨c1, l1, m1, o1⟩ <;> rw [c1, l1, m1, o1]
          · exact .inr (.inl ( ⟨rfl, .inl ⟨rfl, rfl⟩⟩))
          · exact .inr (.inl ( ⟨rfl, .inr (.inl ⟨rfl, rfl⟩)⟩))
          · exact .inr (.inl ( ⟨rfl, .inr (.inr (.inl ⟨rfl, rfl⟩))⟩))
          · exact .inr (.inl ( ⟨rfl, .inr (.inr (.inr ⟨rfl, rfl⟩))⟩))
theorem rord_le {u u' : List Nat} (h : IsV k n s) (h' : IsV k' n' s') (hu : s = Tx.uS u) (hf : Tx.Fits u) (hu' : s' = Tx.uS u') (hf' : Tx.Fits u') (w : World) :
    Calls Tryd.prog 28 #[.string (opS 7), VS k n s, VS k' n' s'] w (Ret (R4V (cmpF 7 k n u k' n' u')) w) := by
  unfold cmpF
  have hsz := h.size
  have hsz' := h'.size
  by_cases hs : (k == 7 && k' == 7) = true
  · rw [if_pos hs]
    obtain ⟨rfl, rfl⟩ : k = 7 ∧ k' = 7 := by simpa using hs
    subst hu hu'
    rw [Tx.uS_size] at hsz hsz'
    refine rb_le_str n n' u u' (Tx.cmpL u u') (cmpB 7 (Tx.cmpL u u')) (Lib.hid rfl) hf hf' (by omega) (by omega) (Lib.hid ?_) w
    rcases cmpL_range u u' with e | e | e <;> rw [e]
    · exact .inl ⟨rfl, rfl⟩
    · exact .inr (.inl ⟨rfl, rfl⟩)
    · exact .inr (.inr ⟨rfl, rfl⟩)
  · rw [if_neg hs]
    have C1 := fun W => rnumber_any k n s W h
    have C2 := fun W => rnumber_any k' n' s' W h'
    by_cases hk : (k == 7) = true
    · have hk' : (k' == 7) = false := by revert hs; rw [hk]; simp
      obtain rfl : k = 7 := by simpa using hk
      rw [if_pos (show (convF 7 n).2.2 ≠ 0 by show (2 : Int) ≠ 0; decide)]
      exact rb_le_s_e1 7 n s k' n' s' _ _ _ w hk hk' (show ¬ (convF 7 n).2.2 = 0 by show ¬ (2 : Int) = 0; decide) C1
    · have hk : (k == 7) = false := by simpa using hk
      by_cases e1 : (convF k n).2.2 ≠ 0
      · rw [if_pos e1]
        exact rb_le_e1 k n s k' n' s' _ _ _ w hk e1 C1
      · rw [if_neg e1]
        have z1 : (convF k n).2.2 = 0 := by simpa using e1
        unfold NF at C1 C2
        rw [z1] at C1
        by_cases e2 : (convF k' n').2.2 ≠ 0
        · rw [if_pos e2]
          exact rb_le_e2 k n s k' n' s' _ _ _ _ _ w hk e2 C1 C2
        · rw [if_neg e2]
          have z2 : (convF k' n').2.2 = 0 := by simpa using e2
          rw [z2] at C2
          have ha := conv_num h z1
          have hb := conv_num h' z2
          refine rb_core (opS 7) k n s k' n' s' _ _ _ _ _ _ _ _ _ _ true 2 (tN (ordB 7 (lessR (convF k n).1 (convF k n).2.1 (convF k' n').1 (convF k' n').2.1).1 (lessR (convF k' n').1 (convF k' n').2.1 (convF k n).1 (convF k n).2.1).1 (lessR (convF k n).1 (convF k n).2.1 (convF k' n').1 (convF k' n').2.1).2)) ⟨#[]⟩ 0 _ w (by first | (simp [opS, go_sem]; done) | decide +kernel) (by first | (simp [opS, go_sem]; done) | decide +kernel) (Lib.hid (.inl (by first | (simp [opS, go_sem]; done) | decide +kernel))) (Lib.hid (.inr ⟨rfl, .inr (.inr (.inl rfl))⟩)) (Lib.hid (.inr hk)) C1 C2 (fun W => rOf_any ha W) (fun W => rOf_any hb W) (fun e => by cases e) (fun _ W => rLess_any ha hb W) (Lib.hid fun _ => ⟨_, rfl, rfl, rfl, rfl, ?_⟩)
          rcases cmp_law ha hb _ _ _ _ rfl rfl rfl rfl with ⟨c1, l1, m1, o1⟩ | ⟨c1, l1, m1, o1⟩ | ⟨c1, l1, m1, o1⟩ | ⟨c1, l1, m1, o1⟩ <;> rw [c1, l1, m1, o1]
          · exact .inr (.inr (.inl ( ⟨rfl, .inl ⟨rfl, rfl⟩⟩)))
          · exact .inr (.inr (.inl ( ⟨rfl, .inr (.inl ⟨rfl, rfl⟩)⟩)))
          · exact .inr (.inr (.inl ( ⟨rfl, .inr (.inr (.inl ⟨rfl, rfl⟩))⟩)))
          · exact .inr (.inr (.inl ( ⟨rfl, .inr (.inr (.inr ⟨rfl, rfl⟩))⟩)))
theorem rord_ge {u u' : List Nat} (h : IsV k n s) (h' : IsV k' n' s') (hu : s = Tx.uS u) (hf : Tx.Fits u) (hu' : s' = Tx.uS u') (hf' : Tx.Fits u') (w : World) :
    Calls Tryd.prog 28 #[.string (opS 8), VS k n s, VS k' n' s'] w (Ret (R4V (cmpF 8 k n u k' n' u')) w) := by
  unfold cmpF
  have hsz := h.size
  have hsz' := h'.size
  by_cases hs : (k == 7 && k' == 7) = true
  · rw [if_pos hs]
    obtain ⟨rfl, rfl⟩ : k = 7 ∧ k' = 7 := by simpa using hs
    subst hu hu'
    rw [Tx.uS_size] at hsz hsz'
    refine rb_ge_str n n' u u' (Tx.cmpL u u') (cmpB 8 (Tx.cmpL u u')) (Lib.hid rfl) hf hf' (by omega) (by omega) (Lib.hid ?_) w
    rcases cmpL_range u u' with e | e | e <;> rw [e]
    · exact .inl ⟨rfl, rfl⟩
    · exact .inr (.inl ⟨rfl, rfl⟩)
    · exact .inr (.inr ⟨rfl, rfl⟩)
  · rw [if_neg hs]
    have C1 := fun W => rnumber_any k n s W h
    have C2 := fun W => rnumber_any k' n' s' W h'
    by_cases hk : (k == 7) = true
    · have hk' : (k' == 7) = false := by revert hs; rw [hk]; simp
      obtain rfl : k = 7 := by simpa using hk
      rw [if_pos (show (convF 7 n).2.2 ≠ 0 by show (2 : Int) ≠ 0; decide)]
      exact rb_ge_s_e1 7 n s k' n' s' _ _ _ w hk hk' (show ¬ (convF 7 n).2.2 = 0 by show ¬ (2 : Int) = 0; decide) C1
    · have hk : (k == 7) = false := by simpa using hk
      by_cases e1 : (convF k n).2.2 ≠ 0
      · rw [if_pos e1]
        exact rb_ge_e1 k n s k' n' s' _ _ _ w hk e1 C1
      · rw [if_neg e1]
        have z1 : (convF k n).2.2 = 0 := by simpa using e1
        unfold NF at C1 C2
        rw [z1] at C1
        by_cases e2 : (convF k' n').2.2 ≠ 0
        · rw [if_pos e2]
          exact rb_ge_e2 k n s k' n' s' _ _ _ _ _ w hk e2 C1 C2
        · rw [if_neg e2]
          have z2 : (convF k' n').2.2 = 0 := by simpa using e2
          rw [z2] at C2
          have ha := conv_num h z1
          have hb := conv_num h' z2
          refine rb_core (opS 8) k n s k' n' s' _ _ _ _ _ _ _ _ _ _ true 2 (tN (ordB 8 (lessR (convF k n).1 (convF k n).2.1 (convF k' n').1 (convF k' n').2.1).1 (lessR (convF k' n').1 (convF k' n').2.1 (convF k n).1 (convF k n).2.1).1 (lessR (convF k n).1 (convF k n).2.1 (convF k' n').1 (convF k' n').2.1).2)) ⟨#[]⟩ 0 _ w (by first | (simp [opS, go_sem]; done) | decide +kernel) (by first | (simp [opS, go_sem]; done) | decide +kernel) (Lib.hid (.inl (by first | (simp [opS, go_sem]; done) | decide +kernel))) (Lib.hid (.inr ⟨rfl, .inr (.inr (.inr rfl))⟩)) (Lib.hid (.inr hk)) C1 C2 (fun W => rOf_any ha W) (fun W => rOf_any hb W) (fun e => by cases e) (fun _ W => rLess_any ha hb W) (Lib.hid fun _ => ⟨_, rfl, rfl, rfl, rfl, ?_⟩)
          rcases cmp_law ha hb _ _ _ _ rfl rfl rfl rfl with ⟨c1, l1, m1, o1⟩ | ⟨c1, l1, m1, o1⟩ | ⟨c1, l1, m1, o1⟩ | ⟨c1, l1, m1, o1⟩ <;> rw [c1, l1, m1, o1]
          · exact .inr (.inr (.inr ( ⟨rfl, .inl ⟨rfl, rfl⟩⟩)))
          · exact .inr (.inr (.inr ( ⟨rfl, .inr (.inl ⟨rfl, rfl⟩)⟩)))
          · exact .inr (.inr (.inr ( ⟨rfl, .inr (.inr (.inl ⟨rfl, rfl⟩))⟩)))
          · exact .inr (.inr (.inr ( ⟨rfl, .inr (.inr (.inr ⟨rfl, rfl⟩))⟩)))
theorem rjoin_any (h : IsV k n s) (h' : IsV k' n' s') (w : World) (hT : Tb w) (hU : Ut w) (hk : (k == 7 || k' == 7) = true) : Calls Tryd.prog 28 #[.string (opS 0), VS k n s, VS k' n' s'] w (Ret (R4V (joinF k n s k' n' s')) w) := by
  have C1 := fun W (hW : Below w.heap.size w W) => rtext_any k n s W h (hT.below hW) (hU.below hW)
  have C2 := fun W (hW : Below w.heap.size w W) => rtext_any k' n' s' W h' (hT.below hW) (hU.below hW)
  have t1 := textF_size h
  have t2 := textF_size h'
  unfold TF at C1 C2
  unfold joinF
  by_cases e1 : (textF k n s).2 ≠ 0
  · rw [if_pos e1]
    by_cases hx : (k == 7) = true
    · exact rb_join_e1_x k n s k' n' s' _ _ w hx e1 C1
    · exact rb_join_e1_y k n s k' n' s' _ _ w (by simpa using hx) (by revert hk; rw [show (k == 7) = false by simpa using hx]; simp) e1 C1
  · rw [if_neg e1]
    have z1 : (textF k n s).2 = 0 := by simpa using e1
    rw [z1] at C1
    by_cases e2 : (textF k' n' s').2 ≠ 0
    · rw [if_pos e2]
      by_cases hx : (k == 7) = true
      · exact rb_join_e2_x k n s k' n' s' _ _ _ w hx e2 C1 C2
      · exact rb_join_e2_y k n s k' n' s' _ _ _ w (by simpa using hx) (by revert hk; rw [show (k == 7) = false by simpa using hx]; simp) e2 C1 C2
    · rw [if_neg e2, if_pos (by omega)]
      have z2 : (textF k' n' s').2 = 0 := by simpa using e2
      rw [z2] at C2
      by_cases hx : (k == 7) = true
      · exact rb_join_ok_x k n s k' n' s' _ _ _ w hx (Lib.hid rfl) t1 t2 C1 C2
      · exact rb_join_ok_y k n s k' n' s' _ _ _ w (by simpa using hx) (by revert hk; rw [show (k == 7) = false by simpa using hx]; simp) (Lib.hid rfl) t1 t2 C1 C2
theorem rbinary_any {u u' : List Nat} (h : IsV k n s) (h' : IsV k' n' s') (hu : s = Tx.uS u) (hf : Tx.Fits u) (hu' : s' = Tx.uS u') (hf' : Tx.Fits u') (op : Nat) (ho : op ≤ 11) (w : World) (hT : Tb w) (hU : Ut w) :
    Calls Tryd.prog 28 #[.string (opS op), VS k n s, VS k' n' s'] w (Ret (R4V (binF op k n s u k' n' s' u')) w) := by
  have hc : op = 0 ∨ op = 1 ∨ op = 2 ∨ op = 3 ∨ op = 4 ∨ op = 5 ∨ op = 6 ∨ op = 7 ∨ op = 8 ∨ op = 9 ∨ op = 10 ∨ op = 11 := by omega
  rcases hc with rfl | rfl | rfl | rfl | rfl | rfl | rfl | rfl | rfl | rfl | rfl | rfl
  · show Calls _ _ _ _ (Ret (R4V (if k == 7 || k' == 7 then joinF k n s k' n' s' else numOp 0 k n k' n')) w)
    by_cases hk : (k == 7 || k' == 7) = true
    · rw [if_pos hk]
      exact rjoin_any h h' w hT hU hk
    · rw [if_neg hk]
      have hk1 : (k == 7) = false := by revert hk; cases (k == 7) <;> simp
      have hk2 : (k' == 7) = false := by revert hk; cases (k' == 7) <;> simp
      exact rgen_plus h h' 0 (opS 0) w (by first | (simp [opS, go_sem]; done) | decide +kernel) (by first | (simp [opS, go_sem]; done) | decide +kernel) (by first | (simp [opS, go_sem]; done) | decide +kernel) (by first | (simp [opS, go_sem]; done) | decide +kernel) (by first | (simp [opS, go_sem]; done) | decide +kernel) (by first | (simp [opS, go_sem]; done) | decide +kernel) (by first | (simp [opS, go_sem]; done) | decide +kernel) hk1 hk2 (fun p q p' q' ha hb W => rreckon_any 0 (by omega) p q p' q' ha hb W)
  · exact rgen_num h h' 1 (opS 1) w (by first | (simp [opS, go_sem]; done) | decide +kernel) (by first | (simp [opS, go_sem]; done) | decide +kernel) (by first | (simp [opS, go_sem]; done) | decide +kernel) (by first | (simp [opS, go_sem]; done) | decide +kernel) (by first | (simp [opS, go_sem]; done) | decide +kernel) (by first | (simp [opS, go_sem]; done) | decide +kernel) (by first | (simp [opS, go_sem]; done) | decide +kernel) (fun p q p' q' ha hb W => rreckon_any 1 (by omega) p q p' q' ha hb W)
  · exact rgen_num h h' 2 (opS 2) w (by first | (simp [opS, go_sem]; done) | decide +kernel) (by first | (simp [opS, go_sem]; done) | decide +kernel) (by first | (simp [opS, go_sem]; done) | decide +kernel) (by first | (simp [opS, go_sem]; done) | decide +kernel) (by first | (simp [opS, go_sem]; done) | decide +kernel) (by first | (simp [opS, go_sem]; done) | decide +kernel) (by first | (simp [opS, go_sem]; done) | decide +kernel) (fun p q p' q' ha hb W => rreckon_any 2 (by omega) p q p' q' ha hb W)
  · exact rgen_num h h' 3 (opS 3) w (by first | (simp [opS, go_sem]; done) | decide +kernel) (by first | (simp [opS, go_sem]; done) | decide +kernel) (by first | (simp [opS, go_sem]; done) | decide +kernel) (by first | (simp [opS, go_sem]; done) | decide +kernel) (by first | (simp [opS, go_sem]; done) | decide +kernel) (by first | (simp [opS, go_sem]; done) | decide +kernel) (by first | (simp [opS, go_sem]; done) | decide +kernel) (fun p q p' q' ha hb W => rreckon_any 3 (by omega) p q p' q' ha hb W)
  · exact rgen_num h h' 4 (opS 4) w (by first | (simp [opS, go_sem]; done) | decide +kernel) (by first | (simp [opS, go_sem]; done) | decide +kernel) (by first | (simp [opS, go_sem]; done) | decide +kernel) (by first | (simp [opS, go_sem]; done) | decide +kernel) (by first | (simp [opS, go_sem]; done) | decide +kernel) (by first | (simp [opS, go_sem]; done) | decide +kernel) (by first | (simp [opS, go_sem]; done) | decide +kernel) (fun p q p' q' ha hb W => rreckon_any 4 (by omega) p q p' q' ha hb W)
  · exact rord_lt h h' hu hf hu' hf' w
  · exact rord_gt h h' hu hf hu' hf' w
  · exact rord_le h h' hu hf hu' hf' w
  · exact rord_ge h h' hu hf hu' hf' w
  · exact rb_eq k n s k' n' s' _ w (fun W => rstrict_any h h' W)
  · exact rb_ne k n s k' n' s' _ w (fun W => rstrict_any h h' W)
  · exact rgen_num h h' 11 (opS 11) w (by first | (simp [opS, go_sem]; done) | decide +kernel) (by first | (simp [opS, go_sem]; done) | decide +kernel) (by first | (simp [opS, go_sem]; done) | decide +kernel) (by first | (simp [opS, go_sem]; done) | decide +kernel) (by first | (simp [opS, go_sem]; done) | decide +kernel) (by first | (simp [opS, go_sem]; done) | decide +kernel) (by first | (simp [opS, go_sem]; done) | decide +kernel) (fun p q p' q' ha hb W => rreckon_any 11 (by omega) p q p' q' ha hb W)
end
end Go.Proofs.YtjkboelcpihphaaDoor
