/- The statement NumDoes, from its walk and plain laws. -/
import Derived.Test.YtdacpebijljckaaDoorNumDoesW
set_option linter.unusedVariables false
set_option linter.unusedSimpArgs false
namespace Go.Proofs.YtdacpebijljckaaDoor
open Go.RowKit

theorem ofR_fac {k n : Int} (h : IsNum k n) : ((ofR k n).1 == 110) = (k == 4) := by
  rcases h.forms with ⟨rfl, rfl, e⟩ | ⟨d, m, s, F, v, e⟩
  · rfl
  · rw [e]
    rcases F with ⟨rfl, rfl⟩ | ⟨rfl, _, _⟩
    · have : k = 5 := by have := congrArg (·.1) v; simpa [valR] using this.symm
      subst this; rfl
    · have : k = 6 ∨ k = 3 := by
        have h1 := congrArg (·.1) v
        simp only [valR] at h1
        by_cases hc : (s == 0 && m) = true
        · left; simpa [hc] using h1.symm
        · right; simpa [hc] using h1.symm
      rcases this with rfl | rfl <;> rfl
/-- What Do answers for an operation, held against num's own. -/
def DoOK (op : Int) (r : Int × Int × Bool) (ka na kb nb : Int) : Prop :=
  ∃ pk pn d s : Int, ∃ m ok : Bool, r = (pk, pn, ok) ∧ (∀ W, Calls Tryd.prog 24 #[.int .u8 op, OV ka na, OV kb nb] W (Ret (RT d m s ok) W)) ∧
    (ok = true → ∀ W, Calls Tryd.prog 25 #[RV d m s] W (Ret (VN pk pn) W)) ∧ (ok = false → pk = 0 ∧ pn = 0)
theorem doOK_of {op : Int} {r : Int × Int × Bool} {ka na kb nb : Int} (C : Value → Prop) (h : Agrees r C)
    (hC : ∀ d m s ok, C (RT d m s ok) → ∀ W, Calls Tryd.prog 24 #[.int .u8 op, OV ka na, OV kb nb] W (Ret (RT d m s ok) W)) : DoOK op r ka na kb nb := by
  obtain ⟨d, m, s, ok, hc, hr, hs⟩ := h
  cases ok with
  | true => exact ⟨_, _, d, s, m, true, hr, hC d m s true hc, fun _ W => val_any d m s W (hs rfl).1 (hs rfl).2, (fun h => by cases h)⟩
  | false => exact ⟨0, 0, d, s, m, false, hr, hC d m s false hc, (fun h => by cases h), fun _ => ⟨rfl, rfl⟩⟩
theorem doOK_nan {op : Int} {r : Int × Int × Bool} {ka na kb nb : Int} (hr : r = (4, 0, true)) (ha : IsNum ka na) (hb : IsNum kb nb) (h : ka = 4 ∨ kb = 4) : DoOK op r ka na kb nb := by
  refine ⟨4, 0, 110, 0, false, true, hr, fun W => do_nan op _ _ _ _ _ _ W ?_, fun _ W => val_any 110 false 0 W (by decide) (by decide), (fun h => by cases h)⟩
  have f1 := (ofR_fac ha)
  have f2 := (ofR_fac hb)
  rw [f1, f2]
  rcases h with rfl | rfl
  · exact .inl rfl
  · by_cases h4 : ka = 4
    · exact .inl (by simpa using h4)
    · exact .inr ⟨by simpa using h4, rfl⟩

theorem form_ne {d s : Int} (h : Form d s) : (d == 110) = false := by rcases h with ⟨rfl, _⟩ | ⟨rfl, _⟩ <;> rfl

theorem do_all (ka na kb nb : Int) (ha : IsNum ka na) (hb : IsNum kb nb) :
    DoOK 43 (addR ka na kb nb) ka na kb nb ∧ DoOK 45 (subR ka na kb nb) ka na kb nb ∧ DoOK 42 (mulR ka na kb nb) ka na kb nb ∧ DoOK 47 (divR ka na kb nb) ka na kb nb := by
  rcases ha.forms with ⟨rfl, rfl, e⟩ | ⟨d, m, s, F, v, e⟩
  · refine ⟨doOK_nan ?_ ha hb (.inl rfl), doOK_nan ?_ ha hb (.inl rfl), doOK_nan ?_ ha hb (.inl rfl), doOK_nan ?_ ha hb (.inl rfl)⟩
    · simp [addR]
    · simp [subR, addR]
    · simp [mulR]
    · simp [divR]
  rcases hb.forms with ⟨rfl, rfl, e'⟩ | ⟨d', m', s', F', v', e'⟩
  · refine ⟨doOK_nan ?_ ha hb (.inr rfl), doOK_nan ?_ ha hb (.inr rfl), doOK_nan ?_ ha hb (.inr rfl), doOK_nan ?_ ha hb (.inr rfl)⟩
    · simp [addR]
    · simp [subR, addR, negR]
    · simp [mulR]
    · simp [divR]
  have n1 := form_ne F
  have n2 := form_ne F'
  have g1 := sum_form d m s d' m' s' F F'
  have g2 := sum_form d m s d' (!m') s' F F'
  have g3 := prod_form d m s d' m' s' F F'
  have g4 := quot_form d m s d' m' s' F F'
  have nv := neg_val d' m' s' F'
  rw [← nv] at g2
  rw [v, v'] at g1 g2 g3 g4
  have o1 : OV ka na = RV d m s := by show RV (ofR ka na).1 (ofR ka na).2.1 (ofR ka na).2.2 = _; rw [e]
  have o2 : OV kb nb = RV d' m' s' := by show RV (ofR kb nb).1 (ofR kb nb).2.1 (ofR kb nb).2.2 = _; rw [e']
  refine ⟨doOK_of _ g1 fun x y z ok hc W => ?_, doOK_of _ g2 fun x y z ok hc W => ?_, doOK_of _ g3 fun x y z ok hc W => ?_, doOK_of _ g4 fun x y z ok hc W => ?_⟩
  · rw [o1, o2]; exact do_add d d' m m' s s' x y z ok W n1 n2 hc
  · rw [o1, o2]; exact do_sub d d' m m' s s' x y z ok W n1 n2 hc
  · rw [o1, o2]; exact do_mul d d' m m' s s' x y z ok W n1 n2 hc
  · rw [o1, o2]; exact do_div d d' m m' s s' x y z ok W n1 n2 hc

theorem rem_all (ka na kb nb : Int) (ha : IsNum ka na) (hb : IsNum kb nb) :
    ∃ x y z, (∀ W, Calls Tryd.prog 27 #[OV ka na, OV kb nb] W (Ret (RV x y z) W)) ∧ valR x y z = remR ka na kb nb ∧ 0 ≤ z ∧ z ≤ 9007199254740992 := by
  rcases ha.forms with ⟨rfl, rfl, e⟩ | ⟨d, m, s, F, v, e⟩
  · exact ⟨110, false, 0, fun W => rem_x false _ 110 0 _ _ W rfl, by simp [valR, remR], by decide, by decide⟩
  have o1 : OV ka na = RV d m s := by show RV (ofR ka na).1 (ofR ka na).2.1 (ofR ka na).2.2 = _; rw [e]
  rcases hb.forms with ⟨rfl, rfl, e'⟩ | ⟨d', m', s', F', v', e'⟩
  · refine ⟨110, false, 0, fun W => ?_, by simp [valR, remR], by decide, by decide⟩
    rw [o1]
    rcases F with ⟨rfl, rfl⟩ | ⟨rfl, _, _⟩
    · exact rem_x m false 105 0 110 0 W rfl
    · exact rem_n m false s 0 W
  have o2 : OV kb nb = RV d' m' s' := by show RV (ofR kb nb).1 (ofR kb nb).2.1 (ofR kb nb).2.2 = _; rw [e']
  obtain ⟨x, y, z, c, hv, h1, h2⟩ := rem_form d m s d' m' s' F F'
  rw [v, v'] at hv
  exact ⟨x, y, z, fun W => by rw [o1, o2]; exact c W, hv, h1, h2⟩

theorem does_walk (a b : Int) (w : World) (wa : (Lit.int .i64 a).wf = true) (wb : (Lit.int .i64 b).wf = true) :
    Calls Tryd.prog 7 #[.int .i64 a, .int .i64 b] w fun e w' => e = .returned (.bool true) ∧ Below w.heap.size w w' := by
  have CA := fun W => num_any a W wa
  have CB := fun W => num_any b W wb
  have ha := numR_is a
  have hb := numR_is b
  generalize numR a = x at *
  obtain ⟨ka, na⟩ := x
  generalize numR b = x at *
  obtain ⟨kb, nb⟩ := x
  try simp only at ha hb
  obtain ⟨⟨p0, q0, d0, s0, m0, k0, e0, D0, U0, Z0⟩, ⟨p1, q1, d1, s1, m1, k1, e1, D1, U1, Z1⟩, ⟨p2, q2, d2, s2, m2, k2, e2, D2, U2, Z2⟩, ⟨p3, q3, d3, s3, m3, k3, e3, D3, U3, Z3⟩⟩ := do_all ka na kb nb ha hb
  obtain ⟨dr, mr, sr, CQ, hv, hr1, hr2⟩ := rem_all ka na kb nb ha hb
  have C0 := fun W => add_any ka na kb nb W ha.lo ha.hi hb.lo hb.hi
  have C1 := fun W => sub_any ka na kb nb W ha hb
  have C2 := fun W => mul_any ka na kb nb W ha.lo ha.hi hb.lo hb.hi (fun h4 h0 => hb.nz h4 h0)
  have C3 := fun W => div_any ka na kb nb W ha.lo ha.hi hb.lo hb.hi (fun h4 h0 => hb.nz h4 h0)
  rw [e0] at C0
  rw [e1] at C1
  rw [e2] at C2
  rw [e3] at C3
  have CR := fun W => rem_any ka na kb nb W ha.lo ha.hi hb.lo hb.hi (fun h4 h0 => hb.nz h4 h0)
  have CV := fun W => val_any dr mr sr W hr1 hr2
  have CV' : ∀ W, Calls Tryd.prog 25 #[RV dr mr sr] W (Ret (VN (remR ka na kb nb).1 (remR ka na kb nb).2) W) := fun W => by
    have := CV W
    rw [← hv]
    exact this
  exact does_core a b ka na kb nb _ _ _ _ _ _ dr sr p0 q0 d0 s0 p1 q1 d1 s1 p2 q2 d2 s2 p3 q3 d3 s3 _ _ mr m0 k0 m1 k1 m2 k2 m3 k3 w CA CB
    (fun W => ofR_any ka na W ha.lo ha.hi) (fun W => ofR_any kb nb W hb.lo hb.hi) CR CQ CV' C0 D0 U0 Z0 C1 D1 U1 Z1 C2 D2 U2 Z2 C3 D3 U3 Z3

end Go.Proofs.YtdacpebijljckaaDoor
