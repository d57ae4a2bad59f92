/- Contract of value.Binary: what an operator answers of any two values. -/
import Derived.Test.YtjkboelcpihphaaDoorValD
import Derived.Test.YtjkboelcpihphaaDoorValE
set_option linter.unusedVariables false
set_option linter.unusedSimpArgs false
namespace Go.Proofs.YtjkboelcpihphaaDoor
open Go.RowKit

/-- A value, and what an operation comes to. -/
abbrev R4 := Int × Int × ByteArray × Int
abbrev R4V (x : R4) : Value := .tuple #[VS x.1 x.2.1 x.2.2.1, .int .i64 x.2.2.2]
def bad (e : Int) : R4 := (0, 0, ⟨#[]⟩, e)
def tr (b : Bool) : R4 := (2, tN b, ⟨#[]⟩, 0)
def isN (k : Int) : Bool := k == 3 || k == 4 || k == 5 || k == 6
def strictR (k n : Int) (s : ByteArray) (k' n' : Int) (s' : ByteArray) : Bool := if isN k && isN k' then eqR k n k' n' else veq k n s k' n' s'
def arith (r : Int × Int × Bool) : R4 := if r.2.2 then (r.1, r.2.1, ⟨#[]⟩, 0) else bad 2
def reckF (op : Nat) (p q p' q' : Int) : R4 :=
  match op with
  | 0 => arith (addR p q p' q')
  | 1 => arith (subR p q p' q')
  | 2 => arith (mulR p q p' q')
  | 3 => arith (divR p q p' q')
  | 4 => ((remR p q p' q').1, (remR p q p' q').2, ⟨#[]⟩, 0)
  | _ => bad 2
def numOp (op : Nat) (k n k' n' : Int) : R4 := if (convF k n).2.2 ≠ 0 then bad (convF k n).2.2 else if (convF k' n').2.2 ≠ 0 then bad (convF k' n').2.2 else reckF op (convF k n).1 (convF k n).2.1 (convF k' n').1 (convF k' n').2.1
/-- Of two strings, c being how they compare. -/
def cmpB (op : Nat) (c : Int) : Bool := match op with
  | 5 => decide (c < 0)
  | 6 => decide (0 < c)
  | 7 => decide (c ≤ 0)
  | _ => decide (0 ≤ c)
/-- Of two numbers. -/
def ordB (op : Nat) (l m ok : Bool) : Bool := match op with
  | 5 => l
  | 6 => m
  | 7 => ok && !m
  | _ => ok && !l
def cmpF (op : Nat) (k n : Int) (u : List Nat) (k' n' : Int) (u' : List Nat) : R4 :=
  if k == 7 && k' == 7 then tr (cmpB op (Tx.cmpL u u')) else if (convF k n).2.2 ≠ 0 then bad (convF k n).2.2 else if (convF k' n').2.2 ≠ 0 then bad (convF k' n').2.2
  else tr (ordB op (lessR (convF k n).1 (convF k n).2.1 (convF k' n').1 (convF k' n').2.1).1 (lessR (convF k' n').1 (convF k' n').2.1 (convF k n).1 (convF k n).2.1).1 (lessR (convF k n).1 (convF k n).2.1 (convF k' n').1 (convF k' n').2.1).2)
def joinF (k n : Int) (s : ByteArray) (k' n' : Int) (s' : ByteArray) : R4 :=
  if (textF k n s).2 ≠ 0 then bad (textF k n s).2 else if (textF k' n' s').2 ≠ 0 then bad (textF k' n' s').2 else if (textF k n s).1.size / 2 + (textF k' n' s').1.size / 2 ≤ 16384 then (7, 0, (textF k n s).1 ++ (textF k' n' s').1, 0) else bad 2
def binF (op : Nat) (k n : Int) (s : ByteArray) (u : List Nat) (k' n' : Int) (s' : ByteArray) (u' : List Nat) : R4 :=
  match op with
  | 0 => if k == 7 || k' == 7 then joinF k n s k' n' s' else numOp 0 k n k' n'
  | 1 => numOp 1 k n k' n'
  | 2 => numOp 2 k n k' n'
  | 3 => numOp 3 k n k' n'
  | 4 => numOp 4 k n k' n'
  | 5 => cmpF 5 k n u k' n' u'
  | 6 => cmpF 6 k n u k' n' u'
  | 7 => cmpF 7 k n u k' n' u'
  | 8 => cmpF 8 k n u k' n' u'
  | 9 => tr (strictR k n s k' n' s')
  | 10 => tr (!strictR k n s k' n' s')
  | _ => numOp 11 k n k' n'
def opS (op : Nat) : ByteArray := match op with
  | 0 => ⟨#[43]⟩ | 1 => ⟨#[45]⟩ | 2 => ⟨#[42]⟩ | 3 => ⟨#[47]⟩ | 4 => ⟨#[37]⟩ | 5 => ⟨#[60]⟩ | 6 => ⟨#[62]⟩ | 7 => ⟨#[60, 61]⟩ | 8 => ⟨#[62, 61]⟩ | 9 => ⟨#[61, 61, 61]⟩ | 10 => ⟨#[33, 61, 61]⟩ | _ => ⟨#[63]⟩

theorem conv_num {k n : Int} {s : ByteArray} (h : IsV k n s) (he : (convF k n).2.2 = 0) : IsNum (convF k n).1 (convF k n).2.1 := by
  rcases kinds h.lo h.hi with rfl | rfl | rfl | ⟨h3, h6⟩ | rfl | rfl | rfl | rfl
  · exact .inl ⟨rfl, rfl⟩
  · have := h.small (.inl rfl)
    exact .inr (.inr (.inr ⟨rfl, by show _ ≤ n; omega, by show n ≤ _; omega⟩))
  · have := h.small (.inr rfl)
    exact .inr (.inr (.inr ⟨rfl, by show _ ≤ n; omega, by show n ≤ _; omega⟩))
  · have e : convF k n = (k, n, 0) := by
      have : k = 3 ∨ k = 4 ∨ k = 5 ∨ k = 6 := by omega
      rcases this with rfl | rfl | rfl | rfl <;> rfl
    rw [e]; exact h.num h3 h6
  · exact absurd (show (2 : Int) = 0 from he) (by decide)
  · exact absurd (show (1 : Int) = 0 from he) (by decide)
  · exact absurd (show (2 : Int) = 0 from he) (by decide)
  · exact absurd (show (2 : Int) = 0 from he) (by decide)
theorem isN_iff (k : Int) : isN k = true ↔ 3 ≤ k ∧ k ≤ 6 := by unfold isN; simp; omega
theorem isV_is {k n : Int} {s : ByteArray} (h : IsV k n s) (W : World) : Calls Tryd.prog 38 #[VS k n s] W (Ret (.bool (isN k)) W) := by
  cases hk : isN k
  · have : ¬ (3 ≤ k ∧ k ≤ 6) := fun h2 => by rw [(isN_iff k).2 h2] at hk; cases hk
    exact is_no k n s W (by omega)
  · have h2 := (isN_iff k).1 hk
    have hs := h.str (by omega)
    subst hs
    exact is_any k n W (h.num h2.1 h2.2)
theorem strict_any {k n : Int} {s : ByteArray} {k' n' : Int} {s' : ByteArray} (h : IsV k n s) (h' : IsV k' n' s') (w : World) : Calls Tryd.prog 22 #[VS k n s, VS k' n' s'] w (Ret (.bool (strictR k n s k' n' s')) w) := by
  cases hk : isN k
  · have e : strictR k n s k' n' s' = veq k n s k' n' s' := by unfold strictR; rw [hk]; rfl
    rw [e]
    exact strict_x k n s k' n' s' w (fun W => by have := isV_is h W; rwa [hk] at this)
  · cases hk' : isN k'
    · have e : strictR k n s k' n' s' = veq k n s k' n' s' := by unfold strictR; rw [hk, hk']; rfl
      rw [e]
      exact strict_nx k n s k' n' s' w (fun W => by have := isV_is h W; rwa [hk] at this) (fun W => by have := isV_is h' W; rwa [hk'] at this)
    · have e : strictR k n s k' n' s' = eqR k n k' n' := by unfold strictR; rw [hk, hk']; rfl
      rw [e]
      have h2 := (isN_iff k).1 hk
      have h3 := (isN_iff k').1 hk'
      have hs := h.str (by omega)
      have hs' := h'.str (by omega)
      subst hs hs'
      exact strict_nn k n _ k' n' _ w _ (fun W => by have := isV_is h W; rwa [hk] at this) (fun W => by have := isV_is h' W; rwa [hk'] at this) (fun W => equal_any k n k' n' W (h.num h2.1 h2.2) (h'.num h3.1 h3.2))

theorem reckon_any (op : Nat) (ho : op ≤ 4 ∨ op = 11) (p q p' q' : Int) (ha : IsNum p q) (hb : IsNum p' q') (w : World) : Calls Tryd.prog 37 #[.string (opS op), VN p q, VN p' q'] w (Ret (R4V (reckF op p q p' q')) w) := by
  have ho2 : op = 0 ∨ op = 1 ∨ op = 2 ∨ op = 3 ∨ op = 4 ∨ op = 11 := by omega
  rcases ho2 with rfl | rfl | rfl | rfl | rfl | rfl
  · show Calls _ _ _ _ (Ret (R4V (arith (addR p q p' q'))) w)
    have C := fun W => add_any p q p' q' W ha.lo ha.hi hb.lo hb.hi
    generalize addR p q p' q' = r at *
    obtain ⟨x, y, ok⟩ := r
    cases ok
    · exact reckon_add_false w p q p' q' x y C
    · exact reckon_add_true w p q p' q' x y C
  · show Calls _ _ _ _ (Ret (R4V (arith (subR p q p' q'))) w)
    have C := fun W => sub_any p q p' q' W ha hb
    generalize subR p q p' q' = r at *
    obtain ⟨x, y, ok⟩ := r
    cases ok
    · exact reckon_sub_false w p q p' q' x y C
    · exact reckon_sub_true w p q p' q' x y C
  · show Calls _ _ _ _ (Ret (R4V (arith (mulR p q p' q'))) w)
    have C := fun W => mul_any p q p' q' W ha.lo ha.hi hb.lo hb.hi (fun h4 h0 => hb.nz h4 h0)
    generalize mulR p q p' q' = r at *
    obtain ⟨x, y, ok⟩ := r
    cases ok
    · exact reckon_mul_false w p q p' q' x y C
    · exact reckon_mul_true w p q p' q' x y C
  · show Calls _ _ _ _ (Ret (R4V (arith (divR p q p' q'))) w)
    have C := fun W => div_any p q p' q' W ha.lo ha.hi hb.lo hb.hi (fun h4 h0 => hb.nz h4 h0)
    generalize divR p q p' q' = r at *
    obtain ⟨x, y, ok⟩ := r
    cases ok
    · exact reckon_div_false w p q p' q' x y C
    · exact reckon_div_true w p q p' q' x y C
  · show Calls _ _ _ _ (Ret (R4V ((remR p q p' q').1, (remR p q p' q').2, ⟨#[]⟩, 0)) w)
    exact reckon_rem w p q p' q' _ _ (fun W => rem_any p q p' q' W ha.lo ha.hi hb.lo hb.hi (fun h4 h0 => hb.nz h4 h0))
  · exact reckon_q w p q p' q'

theorem uT_size (b : ByteArray) (h : b.size ≤ 1000) : (uT b).size ≤ 4000 := by
  have h1 : (Tx.unitsB (Tx.unitsOf b)).length = 2 * (Tx.unitsOf b).length := Tx.unitsB_length _
  have h2 := Tx.decUnits_length b b.size 0
  have h3 : (Tx.unitsOf b).length ≤ 2000 := by unfold Tx.unitsOf; omega
  show (Tx.ofB b).toArray.size ≤ 4000
  rw [List.size_toArray]
  show (Tx.unitsB (Tx.unitsOf b)).length ≤ 4000
  omega
theorem txtF_size {k n : Int} {s : ByteArray} (h : IsV k n s) (hk : k ≤ 6) : (txtF k n).size ≤ 1000 := by
  rcases kinds h.lo h.hi with rfl | rfl | rfl | ⟨h3, h6⟩ | rfl | rfl | rfl | rfl
  · exact (by decide : (9 : Nat) ≤ 1000)
  · exact (by decide : (4 : Nat) ≤ 1000)
  · unfold txtF
    by_cases hn : (n == 0) = true
    · rw [hn]; exact (by decide : (5 : Nat) ≤ 1000)
    · have : (n == 0) = false := by simpa using hn
      rw [this]; exact (by decide : (4 : Nat) ≤ 1000)
  · have e : txtF k n = textS k n := by
      have : k = 3 ∨ k = 4 ∨ k = 5 ∨ k = 6 := by omega
      rcases this with rfl | rfl | rfl | rfl <;> rfl
    have := textS_size (h.num h3 h6)
    rw [e]; omega
  all_goals omega
theorem textF_size {k n : Int} {s : ByteArray} (h : IsV k n s) : (textF k n s).1.size ≤ 4000 := by
  rcases kinds h.lo h.hi with rfl | rfl | rfl | ⟨h3, h6⟩ | rfl | rfl | rfl | rfl
  · exact uT_size _ (txtF_size h (by decide))
  · exact uT_size _ (txtF_size h (by decide))
  · exact uT_size _ (txtF_size h (by decide))
  · have e : textF k n s = (uT (txtF k n), 0) := by
      have : k = 3 ∨ k = 4 ∨ k = 5 ∨ k = 6 := by omega
      rcases this with rfl | rfl | rfl | rfl <;> rfl
    rw [e]; exact uT_size _ (txtF_size h h6)
  · exact h.size
  · exact (by decide : (0 : Nat) ≤ 4000)
  · exact (by decide : (0 : Nat) ≤ 4000)
  · exact (by decide : (0 : Nat) ≤ 4000)
theorem join_any {k n : Int} {s : ByteArray} {k' n' : Int} {s' : ByteArray} (h : IsV k n s) (h' : IsV k' n' s') (w : World) (hT : Tb w) : Calls Tryd.prog 35 #[VS k n s, VS k' n' s'] w (Ret (R4V (joinF k n s k' n' s')) w) := by
  have C1 := fun W (hW : Below w.heap.size w W) => text_any k n s W h (hT.below hW)
  have C2 := fun W (hW : Below w.heap.size w W) => text_any k' n' s' W h' (hT.below hW)
  have z1 := textF_size h
  have z2 := textF_size h'
  unfold joinF
  generalize textF k n s = x at *
  generalize textF k' n' s' = y at *
  obtain ⟨x, e⟩ := x
  obtain ⟨y, e'⟩ := y
  simp only at z1 z2 ⊢
  by_cases he : e = 0
  · subst he
    rw [if_neg (by simp)]
    by_cases he' : e' = 0
    · subst he'
      rw [if_neg (by simp)]
      by_cases hz : x.size / 2 + y.size / 2 ≤ 16384
      · rw [if_pos hz]
        exact join_ok k n s k' n' s' w x y _ C1 C2 (fun W => Tx.join_yes x y W (Lib.hid hz) (by omega) (by omega))
      · rw [if_neg hz]
        exact join_no k n s k' n' s' w x y C1 C2 (fun W => Tx.join_no x y W (Lib.hid (by omega)) (by omega) (by omega))
    · rw [if_pos he']
      exact join_e2 k n s k' n' s' w x y e' he' C1 C2
  · rw [if_pos he]
    exact join_e1 k n s k' n' s' w x e he C1
theorem cmp_any_lt {k n : Int} {s : ByteArray} {u : List Nat} {k' n' : Int} {s' : ByteArray} {u' : List Nat} (h : IsV k n s) (h' : IsV k' n' s') (hu : s = Tx.uS u) (hf : Tx.Fits u) (hu' : s' = Tx.uS u') (hf' : Tx.Fits u') (w : World) : Calls Tryd.prog 36 #[.string (opS 5), VS k n s, VS k' n' s'] w (Ret (R4V (cmpF 5 k n u k' n' u')) w) := by
  unfold cmpF
  by_cases hs : (k == 7 && k' == 7) = true
  · rw [if_pos hs]
    obtain ⟨rfl, rfl⟩ : k = 7 ∧ k' = 7 := by simpa using hs
    exact cmp_s_lt n s n' s' w _ (fun W => by rw [hu, hu']; exact Tx.comp_uS u u' hf hf' W)
  · rw [if_neg hs]
    have C1 := fun W => number_any k n s W h
    have C2 := fun W => number_any k' n' s' W h'
    have N1 := conv_num h
    have N2 := conv_num h'
    generalize convF k n = x at *
    generalize convF k' n' = y at *
    obtain ⟨p, q, e⟩ := x
    obtain ⟨p', q', e'⟩ := y
    simp only at N1 N2 C1 C2 ⊢
    by_cases hk : (k == 7) = true
    case' pos => have hk' : (k' == 7) = false := by
                   cases hc : (k' == 7)
                   · rfl
                   · exact absurd (by rw [hk, hc]; rfl) hs
    case' neg => have hk' : (k == 7) = false := by simpa using hk
    all_goals
      by_cases he : e = 0
      case' neg => rw [if_pos he]
      case' pos =>
        subst he
        rw [if_neg (by simp)]
        by_cases he' : e' = 0
        case' neg => rw [if_pos he']
        case' pos =>
          subst he'
          rw [if_neg (by simp)]
    · exact cmp_lt_x k n s k' n' s' w p q p' q' _ _ _ _ hk' C1 C2 (fun W => less_any p q p' q' W (N1 rfl) (N2 rfl)) (fun W => less_any p' q' p q W (N2 rfl) (N1 rfl))
    · exact cmp_lt_x_e2 k n s k' n' s' w p q p' q' e' he' hk' C1 C2
    · exact cmp_lt_x_e1 k n s k' n' s' w p q e he hk' C1
    · exact cmp_lt_y k n s k' n' s' w p q p' q' _ _ _ _ hk hk' C1 C2 (fun W => less_any p q p' q' W (N1 rfl) (N2 rfl)) (fun W => less_any p' q' p q W (N2 rfl) (N1 rfl))
    · exact cmp_lt_y_e2 k n s k' n' s' w p q p' q' e' he' hk hk' C1 C2
    · exact cmp_lt_y_e1 k n s k' n' s' w p q e he hk hk' C1
theorem cmp_any_gt {k n : Int} {s : ByteArray} {u : List Nat} {k' n' : Int} {s' : ByteArray} {u' : List Nat} (h : IsV k n s) (h' : IsV k' n' s') (hu : s = Tx.uS u) (hf : Tx.Fits u) (hu' : s' = Tx.uS u') (hf' : Tx.Fits u') (w : World) : Calls Tryd.prog 36 #[.string (opS 6), VS k n s, VS k' n' s'] w (Ret (R4V (cmpF 6 k n u k' n' u')) w) := by
  unfold cmpF
  by_cases hs : (k == 7 && k' == 7) = true
  · rw [if_pos hs]
    obtain ⟨rfl, rfl⟩ : k = 7 ∧ k' = 7 := by simpa using hs
    exact cmp_s_gt n s n' s' w _ (fun W => by rw [hu, hu']; exact Tx.comp_uS u u' hf hf' W)
  · rw [if_neg hs]
    have C1 := fun W => number_any k n s W h
    have C2 := fun W => number_any k' n' s' W h'
    have N1 := conv_num h
    have N2 := conv_num h'
    generalize convF k n = x at *
    generalize convF k' n' = y at *
    obtain ⟨p, q, e⟩ := x
    obtain ⟨p', q', e'⟩ := y
    simp only at N1 N2 C1 C2 ⊢
    by_cases hk : (k == 7) = true
    case' pos => have hk' : (k' == 7) = false := by
                   cases hc : (k' == 7)
                   · rfl
                   · exact absurd (by rw [hk, hc]; rfl) hs
    case' neg => have hk' : (k == 7) = false := by simpa using hk
    all_goals
      by_cases he : e = 0
      case' neg => rw [if_pos he]
      case' pos =>
        subst he
        rw [if_neg (by simp)]
        by_cases he' : e' = 0
        case' neg => rw [if_pos he']
        case' pos =>
          subst he'
          rw [if_neg (by simp)]
    · exact cmp_gt_x k n s k' n' s' w p q p' q' _ _ _ _ hk' C1 C2 (fun W => less_any p q p' q' W (N1 rfl) (N2 rfl)) (fun W => less_any p' q' p q W (N2 rfl) (N1 rfl))
    · exact cmp_gt_x_e2 k n s k' n' s' w p q p' q' e' he' hk' C1 C2
    · exact cmp_gt_x_e1 k n s k' n' s' w p q e he hk' C1
    · exact cmp_gt_y k n s k' n' s' w p q p' q' _ _ _ _ hk hk' C1 C2 (fun W => less_any p q p' q' W (N1 rfl) (N2 rfl)) (fun W => less_any p' q' p q W (N2 rfl) (N1 rfl))
    · exact cmp_gt_y_e2 k n s k' n' s' w p q p' q' e' he' hk hk' C1 C2
    · exact cmp_gt_y_e1 k n s k' n' s' w p q e he hk hk' C1
theorem cmp_any_le {k n : Int} {s : ByteArray} {u : List Nat} {k' n' : Int} {s' : ByteArray} {u' : List Nat} (h : IsV k n s) (h' : IsV k' n' s') (hu : s = Tx.uS u) (hf : Tx.Fits u) (hu' : s' = Tx.uS u') (hf' : Tx.Fits u') (w : World) : Calls Tryd.prog 36 #[.string (opS 7), VS k n s, VS k' n' s'] w (Ret (R4V (cmpF 7 k n u k' n' u')) w) := by
  unfold cmpF
  by_cases hs : (k == 7 && k' == 7) = true
  · rw [if_pos hs]
    obtain ⟨rfl, rfl⟩ : k = 7 ∧ k' = 7 := by simpa using hs
    exact cmp_s_le n s n' s' w _ (fun W => by rw [hu, hu']; exact Tx.comp_uS u u' hf hf' W)
  · rw [if_neg hs]
    have C1 := fun W => number_any k n s W h
    have C2 := fun W => number_any k' n' s' W h'
    have N1 := conv_num h
    have N2 := conv_num h'
    generalize convF k n = x at *
    generalize convF k' n' = y at *
    obtain ⟨p, q, e⟩ := x
    obtain ⟨p', q', e'⟩ := y
    simp only at N1 N2 C1 C2 ⊢
    by_cases hk : (k == 7) = true
    case' pos => have hk' : (k' == 7) = false := by
                   cases hc : (k' == 7)
                   · rfl
                   · exact absurd (by rw [hk, hc]; rfl) hs
    case' neg => have hk' : (k == 7) = false := by simpa using hk
    all_goals
      by_cases he : e = 0
      case' neg => rw [if_pos he]
      case' pos =>
        subst he
        rw [if_neg (by simp)]
        by_cases he' : e' = 0
        case' neg => rw [if_pos he']
        case' pos =>
          subst he'
          rw [if_neg (by simp)]
    · exact cmp_le_x k n s k' n' s' w p q p' q' _ _ _ _ hk' C1 C2 (fun W => less_any p q p' q' W (N1 rfl) (N2 rfl)) (fun W => less_any p' q' p q W (N2 rfl) (N1 rfl))
    · exact cmp_le_x_e2 k n s k' n' s' w p q p' q' e' he' hk' C1 C2
    · exact cmp_le_x_e1 k n s k' n' s' w p q e he hk' C1
    · exact cmp_le_y k n s k' n' s' w p q p' q' _ _ _ _ hk hk' C1 C2 (fun W => less_any p q p' q' W (N1 rfl) (N2 rfl)) (fun W => less_any p' q' p q W (N2 rfl) (N1 rfl))
    · exact cmp_le_y_e2 k n s k' n' s' w p q p' q' e' he' hk hk' C1 C2
    · exact cmp_le_y_e1 k n s k' n' s' w p q e he hk hk' C1
theorem cmp_any_ge {k n : Int} {s : ByteArray} {u : List Nat} {k' n' : Int} {s' : ByteArray} {u' : List Nat} (h : IsV k n s) (h' : IsV k' n' s') (hu : s = Tx.uS u) (hf : Tx.Fits u) (hu' : s' = Tx.uS u') (hf' : Tx.Fits u') (w : World) : Calls Tryd.prog 36 #[.string (opS 8), VS k n s, VS k' n' s'] w (Ret (R4V (cmpF 8 k n u k' n' u')) w) := by
  unfold cmpF
  by_cases hs : (k == 7 && k' == 7) = true
  · rw [if_pos hs]
    obtain ⟨rfl, rfl⟩ : k = 7 ∧ k' = 7 := by simpa using hs
    exact cmp_s_ge n s n' s' w _ (fun W => by rw [hu, hu']; exact Tx.comp_uS u u' hf hf' W)
  · rw [if_neg hs]
    have C1 := fun W => number_any k n s W h
    have C2 := fun W => number_any k' n' s' W h'
    have N1 := conv_num h
    have N2 := conv_num h'
    generalize convF k n = x at *
    generalize convF k' n' = y at *
    obtain ⟨p, q, e⟩ := x
    obtain ⟨p', q', e'⟩ := y
    simp only at N1 N2 C1 C2 ⊢
    by_cases hk : (k == 7) = true
    case' pos => have hk' : (k' == 7) = false := by
                   cases hc : (k' == 7)
                   · rfl
                   · exact absurd (by rw [hk, hc]; rfl) hs
    case' neg => have hk' : (k == 7) = false := by simpa using hk
    all_goals
      by_cases he : e = 0
      case' neg => rw [if_pos he]
      case' pos =>
        subst he
        rw [if_neg (by simp)]
        by_cases he' : e' = 0
        case' neg => rw [if_pos he']
        case' pos =>
          subst he'
          rw [if_neg (by simp)]
    · exact cmp_ge_x k n s k' n' s' w p q p' q' _ _ _ _ hk' C1 C2 (fun W => less_any p q p' q' W (N1 rfl) (N2 rfl)) (fun W => less_any p' q' p q W (N2 rfl) (N1 rfl))
    · exact cmp_ge_x_e2 k n s k' n' s' w p q p' q' e' he' hk' C1 C2
    · exact cmp_ge_x_e1 k n s k' n' s' w p q e he hk' C1
    · exact cmp_ge_y k n s k' n' s' w p q p' q' _ _ _ _ hk hk' C1 C2 (fun W => less_any p q p' q' W (N1 rfl) (N2 rfl)) (fun W => less_any p' q' p q W (N2 rfl) (N1 rfl))
    · exact cmp_ge_y_e2 k n s k' n' s' w p q p' q' e' he' hk hk' C1 C2
    · exact cmp_ge_y_e1 k n s k' n' s' w p q e he hk hk' C1
theorem num_any_add {k n : Int} {s : ByteArray} {k' n' : Int} {s' : ByteArray} (h : IsV k n s) (h' : IsV k' n' s') (hk : (k == 7) = false) (hk' : (k' == 7) = false) (w : World) : Calls Tryd.prog 11 #[.string (opS 0), VS k n s, VS k' n' s'] w (Ret (R4V (numOp 0 k n k' n')) w) := by
  unfold numOp
  have C1 := fun W => number_any k n s W h
  have C2 := fun W => number_any k' n' s' W h'
  have N1 := conv_num h
  have N2 := conv_num h'
  generalize convF k n = x at *
  generalize convF k' n' = y at *
  obtain ⟨p, q, e⟩ := x
  obtain ⟨p', q', e'⟩ := y
  simp only at N1 N2 C1 C2 ⊢
  by_cases he : e = 0
  · subst he
    rw [if_neg (by simp)]
    by_cases he' : e' = 0
    · subst he'
      rw [if_neg (by simp)]
      exact bin_add k n s k' n' s' w p q p' q' _ _ _ _ hk hk' C1 C2 (fun W => reckon_any 0 (by decide) p q p' q' (N1 rfl) (N2 rfl) W)
    · rw [if_pos he']
      exact bin_add_e2 k n s k' n' s' w p q p' q' e' he' hk hk' C1 C2
  · rw [if_pos he]
    exact bin_add_e1 k n s k' n' s' w p q e he hk hk' C1
theorem num_any_sub {k n : Int} {s : ByteArray} {k' n' : Int} {s' : ByteArray} (h : IsV k n s) (h' : IsV k' n' s') (w : World) : Calls Tryd.prog 11 #[.string (opS 1), VS k n s, VS k' n' s'] w (Ret (R4V (numOp 1 k n k' n')) w) := by
  unfold numOp
  have C1 := fun W => number_any k n s W h
  have C2 := fun W => number_any k' n' s' W h'
  have N1 := conv_num h
  have N2 := conv_num h'
  generalize convF k n = x at *
  generalize convF k' n' = y at *
  obtain ⟨p, q, e⟩ := x
  obtain ⟨p', q', e'⟩ := y
  simp only at N1 N2 C1 C2 ⊢
  by_cases he : e = 0
  · subst he
    rw [if_neg (by simp)]
    by_cases he' : e' = 0
    · subst he'
      rw [if_neg (by simp)]
      exact bin_sub k n s k' n' s' w p q p' q' _ _ _ _ C1 C2 (fun W => reckon_any 1 (by decide) p q p' q' (N1 rfl) (N2 rfl) W)
    · rw [if_pos he']
      exact bin_sub_e2 k n s k' n' s' w p q p' q' e' he' C1 C2
  · rw [if_pos he]
    exact bin_sub_e1 k n s k' n' s' w p q e he C1
theorem num_any_mul {k n : Int} {s : ByteArray} {k' n' : Int} {s' : ByteArray} (h : IsV k n s) (h' : IsV k' n' s') (w : World) : Calls Tryd.prog 11 #[.string (opS 2), VS k n s, VS k' n' s'] w (Ret (R4V (numOp 2 k n k' n')) w) := by
  unfold numOp
  have C1 := fun W => number_any k n s W h
  have C2 := fun W => number_any k' n' s' W h'
  have N1 := conv_num h
  have N2 := conv_num h'
  generalize convF k n = x at *
  generalize convF k' n' = y at *
  obtain ⟨p, q, e⟩ := x
  obtain ⟨p', q', e'⟩ := y
  simp only at N1 N2 C1 C2 ⊢
  by_cases he : e = 0
  · subst he
    rw [if_neg (by simp)]
    by_cases he' : e' = 0
    · subst he'
      rw [if_neg (by simp)]
      exact bin_mul k n s k' n' s' w p q p' q' _ _ _ _ C1 C2 (fun W => reckon_any 2 (by decide) p q p' q' (N1 rfl) (N2 rfl) W)
    · rw [if_pos he']
      exact bin_mul_e2 k n s k' n' s' w p q p' q' e' he' C1 C2
  · rw [if_pos he]
    exact bin_mul_e1 k n s k' n' s' w p q e he C1
theorem num_any_div {k n : Int} {s : ByteArray} {k' n' : Int} {s' : ByteArray} (h : IsV k n s) (h' : IsV k' n' s') (w : World) : Calls Tryd.prog 11 #[.string (opS 3), VS k n s, VS k' n' s'] w (Ret (R4V (numOp 3 k n k' n')) w) := by
  unfold numOp
  have C1 := fun W => number_any k n s W h
  have C2 := fun W => number_any k' n' s' W h'
  have N1 := conv_num h
  have N2 := conv_num h'
  generalize convF k n = x at *
  generalize convF k' n' = y at *
  obtain ⟨p, q, e⟩ := x
  obtain ⟨p', q', e'⟩ := y
  simp only at N1 N2 C1 C2 ⊢
  by_cases he : e = 0
  · subst he
    rw [if_neg (by simp)]
    by_cases he' : e' = 0
    · subst he'
      rw [if_neg (by simp)]
      exact bin_div k n s k' n' s' w p q p' q' _ _ _ _ C1 C2 (fun W => reckon_any 3 (by decide) p q p' q' (N1 rfl) (N2 rfl) W)
    · rw [if_pos he']
      exact bin_div_e2 k n s k' n' s' w p q p' q' e' he' C1 C2
  · rw [if_pos he]
    exact bin_div_e1 k n s k' n' s' w p q e he C1
theorem num_any_rem {k n : Int} {s : ByteArray} {k' n' : Int} {s' : ByteArray} (h : IsV k n s) (h' : IsV k' n' s') (w : World) : Calls Tryd.prog 11 #[.string (opS 4), VS k n s, VS k' n' s'] w (Ret (R4V (numOp 4 k n k' n')) w) := by
  unfold numOp
  have C1 := fun W => number_any k n s W h
  have C2 := fun W => number_any k' n' s' W h'
  have N1 := conv_num h
  have N2 := conv_num h'
  generalize convF k n = x at *
  generalize convF k' n' = y at *
  obtain ⟨p, q, e⟩ := x
  obtain ⟨p', q', e'⟩ := y
  simp only at N1 N2 C1 C2 ⊢
  by_cases he : e = 0
  · subst he
    rw [if_neg (by simp)]
    by_cases he' : e' = 0
    · subst he'
      rw [if_neg (by simp)]
      exact bin_rem k n s k' n' s' w p q p' q' _ _ _ _ C1 C2 (fun W => reckon_any 4 (by decide) p q p' q' (N1 rfl) (N2 rfl) W)
    · rw [if_pos he']
      exact bin_rem_e2 k n s k' n' s' w p q p' q' e' he' C1 C2
  · rw [if_pos he]
    exact bin_rem_e1 k n s k' n' s' w p q e he C1
theorem num_any_q {k n : Int} {s : ByteArray} {k' n' : Int} {s' : ByteArray} (h : IsV k n s) (h' : IsV k' n' s') (w : World) : Calls Tryd.prog 11 #[.string (opS 11), VS k n s, VS k' n' s'] w (Ret (R4V (numOp 11 k n k' n')) w) := by
  unfold numOp
  have C1 := fun W => number_any k n s W h
  have C2 := fun W => number_any k' n' s' W h'
  have N1 := conv_num h
  have N2 := conv_num h'
  generalize convF k n = x at *
  generalize convF k' n' = y at *
  obtain ⟨p, q, e⟩ := x
  obtain ⟨p', q', e'⟩ := y
  simp only at N1 N2 C1 C2 ⊢
  by_cases he : e = 0
  · subst he
    rw [if_neg (by simp)]
    by_cases he' : e' = 0
    · subst he'
      rw [if_neg (by simp)]
      exact bin_q k n s k' n' s' w p q p' q' _ _ _ _ C1 C2 (fun W => reckon_any 11 (by decide) p q p' q' (N1 rfl) (N2 rfl) W)
    · rw [if_pos he']
      exact bin_q_e2 k n s k' n' s' w p q p' q' e' he' C1 C2
  · rw [if_pos he]
    exact bin_q_e1 k n s k' n' s' w p q e he C1
theorem binary_any {k n : Int} {s : ByteArray} {u : List Nat} {k' n' : Int} {s' : ByteArray} {u' : List Nat} (h : IsV k n s) (h' : IsV k' n' s') (hu : s = Tx.uS u) (hf : Tx.Fits u) (hu' : s' = Tx.uS u') (hf' : Tx.Fits u') (op : Nat) (ho : op ≤ 11) (w : World) (hT : Tb w) :
    Calls Tryd.prog 11 #[.string (opS op), VS k n s, VS k' n' s'] w (Ret (R4V (binF op k n s u k' n' s' u')) w) := by
  have hc : op = 0 ∨ op = 1 ∨ op = 2 ∨ op = 3 ∨ op = 4 ∨ op = 5 ∨ op = 6 ∨ op = 7 ∨ op = 8 ∨ op = 9 ∨ op = 10 ∨ op = 11 := by omega
  rcases hc with rfl | rfl | rfl | rfl | rfl | rfl | rfl | rfl | rfl | rfl | rfl | rfl
  · show Calls _ _ _ _ (Ret (R4V (if k == 7 || k' == 7 then joinF k n s k' n' s' else numOp 0 k n k' n')) w)
    by_cases hk : (k == 7) = true
    · rw [if_pos (by rw [hk]; rfl)]
      exact bin_join_x k n s k' n' s' w _ _ _ _ hk (fun W hW => join_any h h' W (hT.below hW))
    · have hk : (k == 7) = false := by simpa using hk
      by_cases hk' : (k' == 7) = true
      · rw [if_pos (by rw [hk, hk']; rfl)]
        exact bin_join_y k n s k' n' s' w _ _ _ _ hk hk' (fun W hW => join_any h h' W (hT.below hW))
      · have hk' : (k' == 7) = false := by simpa using hk'
        rw [if_neg (by rw [hk, hk']; decide)]
        exact num_any_add h h' hk hk' w
  · exact num_any_sub h h' w
  · exact num_any_mul h h' w
  · exact num_any_div h h' w
  · exact num_any_rem h h' w
  · exact bin_lt k n s k' n' s' w _ _ _ _ (fun W => cmp_any_lt h h' hu hf hu' hf' W)
  · exact bin_gt k n s k' n' s' w _ _ _ _ (fun W => cmp_any_gt h h' hu hf hu' hf' W)
  · exact bin_le k n s k' n' s' w _ _ _ _ (fun W => cmp_any_le h h' hu hf hu' hf' W)
  · exact bin_ge k n s k' n' s' w _ _ _ _ (fun W => cmp_any_ge h h' hu hf hu' hf' W)
  · exact bin_eq k n s k' n' s' w _ (fun W => strict_any h h' W)
  · exact bin_ne k n s k' n' s' w _ (fun W => strict_any h h' W)
  · exact num_any_q h h' w
end Go.Proofs.YtjkboelcpihphaaDoor
