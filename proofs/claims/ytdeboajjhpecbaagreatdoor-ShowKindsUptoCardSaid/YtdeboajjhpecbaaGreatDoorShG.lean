/- ShG: several texts in one. -/
import Derived.Test.YtdeboajjhpecbaaGreatDoorShD
import Derived.Test.YtdeboajjhpecbaaGreatDoorBldR
import Derived.Test.YtdeboajjhpecbaaGreatDoorShelf
import Derived.Deep.CutBlock
/- Show: show of what is no object. -/
set_option linter.unusedVariables false
set_option linter.unusedSimpArgs false
namespace Go.Proofs.YtdeboajjhpecbaaGreatDoor.Hp
open Go.RowKit Go.Proofs.YtdeboajjhpecbaaGreatDoor Go.Shelf
/-- What show comes to. -/
def ShwP (g : ByteArray) (w : World) (e : Ending) (w' : World) : Prop := e = .returned (.string g) ∧ Below w.heap.size w w'
set_option maxRecDepth 100000 in
set_option maxHeartbeats 4000000 in
theorem show_plain (m : Nat) (k n : Int) (s t g : ByteArray) (deep : Int) (w : World) (h8 : (k == 8) = false) (h10 : (k == 10) = false) (h9 : (k == 9) = false)
    (hT : ∀ W, Below w.heap.size w W → Calls Tryz.prog 32 #[VS k n s] W (Ret (.tuple #[.string t, .int .i64 0]) W))
    (hG : ∀ W, Calls Tryz.prog 30 #[.string t] W (Ret (.string g) W)) :
    Calls Tryz.prog 20 #[.pointer (some ⟨m, 0, none⟩), VS k n s, .int .i64 deep] w (ShwP g w) := by
  have b0 : Below w.heap.size w (w.alloc (.cells #[.int .i64 k, .int .i64 n, .string s] 30)) := (Below.refl _ _).alloc (Nat.le_refl _) _
  have HT := Lib.hid (hT _ b0)
  have HG := Lib.hid hG
  have HB := Lib.hid b0
  clear hT hG b0
  go_enter Tryz.func20, Tryz.ntmps20
  go_wp2_with (fail)
  refine HT.out.mono ?_
  rintro e w1 ⟨rfl, b1⟩
  have HB1 := Lib.hid (HB.out.trans (b1.mono HB.out.size))
  clear b1 HT HB
  go_wp2_with (fail)
  refine (HG.out _).mono ?_
  rintro e w2 ⟨rfl, b2⟩
  have HB2 := Lib.hid (HB1.out.trans (b2.mono HB1.out.size))
  clear b2 HG HB1
  go_wp2
  go_ret
  exact ⟨rfl, HB2.out⟩
set_option maxRecDepth 100000 in
set_option maxHeartbeats 4000000 in
theorem show_empty (m : Nat) (n : Int) (s : ByteArray) (deep : Int) (w : World) : Calls Tryz.prog 20 #[.pointer (some ⟨m, 0, none⟩), VS 10 n s, .int .i64 deep] w (ShwP ⟨#[]⟩ w) := by
  go_enter Tryz.func20, Tryz.ntmps20
  go_wp2
  go_ret
  exact ⟨rfl, (Below.refl _ _).alloc (Nat.le_refl _) _⟩
set_option maxRecDepth 100000 in
set_option maxHeartbeats 4000000 in
/-- An object is printed by object. -/
theorem show_obj (m : Nat) (n : Int) (s g : ByteArray) (deep : Int) (w : World)
    (hO : ∀ W, Below w.heap.size w W → Calls Tryz.prog 31 #[.pointer (some ⟨m, 0, none⟩), VS 9 n s, .int .i64 deep] W (ShwP g W)) :
    Calls Tryz.prog 20 #[.pointer (some ⟨m, 0, none⟩), VS 9 n s, .int .i64 deep] w (ShwP g w) := by
  have b0 : Below w.heap.size w (w.alloc (.cells #[.int .i64 9, .int .i64 n, .string s] 30)) := (Below.refl _ _).alloc (Nat.le_refl _) _
  have HO := Lib.hid (hO _ b0)
  have HB := Lib.hid b0
  clear hO b0
  go_enter Tryz.func20, Tryz.ntmps20
  go_wp2_with (fail)
  refine HO.out.mono ?_
  rintro e w1 ⟨rfl, b1⟩
  have HB1 := Lib.hid (HB.out.trans (b1.mono HB.out.size))
  clear b1 HO HB
  go_wp2
  go_ret
  exact ⟨rfl, HB1.out⟩
end Go.Proofs.YtdeboajjhpecbaaGreatDoor.Hp

/- Show: object, of an array. -/
set_option linter.unusedVariables false
set_option linter.unusedSimpArgs false
namespace Go.Proofs.YtdeboajjhpecbaaGreatDoor.Hp
open Go.RowKit Go.Proofs.YtdeboajjhpecbaaGreatDoor Go.Shelf
theorem bAt_below {T e : TypeId} {B b : Nat} {p : Value} {bs : List Value} {W W' : World} (h : Lib.BuilderAtF T e B b p bs W) (hb : Below W.heap.size W W') : Lib.BuilderAtF T e B b p bs W' := by
  have hlt := h.lt
  obtain ⟨hB, v, hv, hown, hne⟩ := h
  exact ⟨hB, v, (hb.block b hlt).trans hv, hown.kept (row := none) ⟨hb.os, hb.tape, hb.output, hb.size, fun k hk _ => hb.block k hk⟩ (Classical.em _), hne⟩
theorem bIs_below {T e : TypeId} {B b : Nat} {bs : List Value} {W W' : World} (h : Lib.IsBuilderF T e B b bs W) (hb : Below W.heap.size W W') : Lib.IsBuilderF T e B b bs W' :=
  h.elim (fun x => .inl (bAt_below x hb)) (fun x => .inr (bAt_below x hb))
/-- Parts with a comma and a blank between. -/
def jn : List (List UInt8) → List UInt8
  | [] => []
  | [x] => x
  | x :: y :: r => x ++ [44, 32] ++ jn (y :: r)
theorem jn_snoc (l : List (List UInt8)) (x : List UInt8) (h : l ≠ []) : jn (l ++ [x]) = jn l ++ [44, 32] ++ x := by
  induction l with
  | nil => exact absurd rfl h
  | cons a l ih =>
    cases l with
    | nil => rfl
    | cons y r =>
      have := ih (by simp)
      simp only [List.cons_append, jn] at *
      rw [this]
      simp
theorem jn_take (l : List (List UInt8)) (i : Nat) (h : i < l.length) : jn (l.take (i + 1)) = jn (l.take i) ++ (if 0 < i then [44, 32] else []) ++ l.getD i [] := by
  rw [List.take_add_one, List.getElem?_eq_getElem h]
  simp only [Option.toList]
  cases i with
  | zero => simp [jn, List.getD, List.getElem?_eq_getElem h]
  | succ j =>
    rw [jn_snoc _ _ (by cases l with | nil => simp at h | cons => simp)]
    simp [List.getD, List.getElem?_eq_getElem h]
theorem jn_len (l : List (List UInt8)) : ∀ i, (jn (l.take i)).length ≤ (jn l).length := by
  intro i
  by_cases h : i < l.length
  · have : ∀ n, ∀ i, i + n = l.length → (jn (l.take i)).length ≤ (jn l).length := by
      intro n
      induction n with
      | zero => intro i hi; rw [List.take_of_length_le (by omega)]; omega
      | succ n ih =>
        intro i hi
        have := ih (i + 1) (by omega)
        rw [jn_take l i (by omega)] at this
        simp only [List.length_append] at this
        omega
    exact this (l.length - i) i (by omega)
  · rw [List.take_of_length_le (by omega)]; omega
/-- An array too deep. -/
theorem object_deep {w : World} {m H b T : Nat} {n0 : Int} {s0 : ByteArray} {pr at_ : Int} {clo : Bool} {ev tb wk fa : Value} {deep : Int} (hd : decide (deep > 2) = true)
    (x0 : w.cell? ⟨m, 0, none⟩ = some (.pointer (some ⟨H, 0, none⟩))) (hB : Blk w b 85 (objA 1 pr clo T ev tb wk fa at_))
    (hOf : ∀ W, Below w.heap.size w W → Calls Tryz.prog 46 #[.pointer (some ⟨H, 0, none⟩), VS 9 n0 s0] W fun e W' => e = .returned (.pointer (some ⟨b, 0, none⟩)) ∧ Below W.heap.size W W') :
    Calls Tryz.prog 31 #[.pointer (some ⟨m, 0, none⟩), VS 9 n0 s0, .int .i64 deep] w (ShwP ⟨#[91, 46, 46, 93]⟩ w) := by
  have b0 : Below w.heap.size w (w.alloc (.cells #[.int .i64 9, .int .i64 n0, .string s0] 30)) := (Below.refl _ _).alloc (Nat.le_refl _) _
  have HO := Lib.hid hOf
  have HB := Lib.hid b0
  have HV := Lib.hid hB
  have bx := Blk.new w 30 #[.int .i64 9, .int .i64 n0, .string s0]
  have HS : Hid ((w.alloc (.cells #[.int .i64 9, .int .i64 n0, .string s0] 30)).cell? ⟨m, 0, none⟩ = some (.pointer (some ⟨H, 0, none⟩)) ∧ (w.alloc (.cells #[.int .i64 9, .int .i64 n0, .string s0] 30)).cell? ⟨w.heap.size, 0, none⟩ = some (.int .i64 9) ∧ (w.alloc (.cells #[.int .i64 9, .int .i64 n0, .string s0] 30)).cell? ⟨w.heap.size, 1, none⟩ = some (.int .i64 n0) ∧ (w.alloc (.cells #[.int .i64 9, .int .i64 n0, .string s0] 30)).cell? ⟨w.heap.size, 2, none⟩ = some (.string s0)) := Lib.hid ⟨(b0.cell (World.block_lt_of_cell? w _ x0)).trans x0, by rw [bx.cell]; rfl, by rw [bx.cell]; rfl, by rw [bx.cell]; rfl⟩
  clear hOf b0 hB x0 bx
  go_enter Tryz.func31, Tryz.ntmps31
  go_wp2_with (fail)
  generalize w.alloc (.cells #[.int .i64 9, .int .i64 n0, .string s0] 30) = W1 at *
  refine wp_var0 (fun KV HKV => ?_)
  refine wp_region_till (m := 5) (S := (fun W => W.cell? ⟨m, 0, none⟩ = some (.pointer (some ⟨H, 0, none⟩)) ∧ W.cell? ⟨w.heap.size, 0, none⟩ = some (.int .i64 9) ∧ W.cell? ⟨w.heap.size, 1, none⟩ = some (.int .i64 n0) ∧ W.cell? ⟨w.heap.size, 2, none⟩ = some (.string s0))) (by kernel_rfl) ?_
  have e4 : W1.drew = W1.drewN 1 := rfl
  rw [e4]
  have S0 : (W1.drewN 1).cell? ⟨m, 0, none⟩ = some (.pointer (some ⟨H, 0, none⟩)) ∧ (W1.drewN 1).cell? ⟨w.heap.size, 0, none⟩ = some (.int .i64 9) ∧ (W1.drewN 1).cell? ⟨w.heap.size, 1, none⟩ = some (.int .i64 n0) ∧ (W1.drewN 1).cell? ⟨w.heap.size, 2, none⟩ = some (.string s0) := HS.out
  have HBD := Lib.hid (below_drw HB.out 1)
  clear e4 HS HB
  generalize W1.drewN 1 = E1 at *
  change tillH _ _ _ _ _ _ 7 #[false, false, false, false, false, false, false] _ _
  refine tillH_takeAny (i := 0) (oi := ?oo1) (v := ?vv1) ?hi1 (by kernel_rfl) (by kernel_rfl) (by kernel_rfl) ?hq1 (by kernel_rfl) ?hy1 (fun _ => S0) ?hh1
  case hi1 => (simp only [List.getElem?_toArray, List.getElem?_cons_succ, List.getElem?_cons_zero]; rfl)
  case hq1 => exact fun _ _ _ h => h
  case hy1 => exact Or.inl ⟨by rfl, by (intro W; go_simp; (try with_reducible rfl))⟩
  (try simp only [Act.put, List.setIfInBounds_toArray, List.set_cons_zero, List.set_cons_succ])
  refine tillH_takeAny (i := 1) (oi := ?oo2) (v := ?vv2) ?hi2 (by kernel_rfl) (by kernel_rfl) (by kernel_rfl) ?hq2 (by kernel_rfl) ?hy2 (fun _ => S0) ?hh2
  case hi2 => (simp only [List.getElem?_toArray, List.getElem?_cons_succ, List.getElem?_cons_zero]; rfl)
  case hq2 => exact fun _ _ _ h => h
  case hy2 => exact Or.inl ⟨by rfl, by (intro W; go_simp; (try with_reducible rfl))⟩
  (try simp only [Act.put, List.setIfInBounds_toArray, List.set_cons_zero, List.set_cons_succ])
  refine tillH_takeAny (i := 2) (oi := ?oo3) (v := ?vv3) ?hi3 (by kernel_rfl) (by kernel_rfl) (by kernel_rfl) ?hq3 (by kernel_rfl) ?hy3 (fun _ => S0) ?hh3
  case hi3 => (simp only [List.getElem?_toArray, List.getElem?_cons_succ, List.getElem?_cons_zero]; rfl)
  case hq3 => exact fun _ _ _ h => h
  case hy3 => exact Or.inl ⟨by rfl, by (intro W; go_simp; (try with_reducible rfl))⟩
  (try simp only [Act.put, List.setIfInBounds_toArray, List.set_cons_zero, List.set_cons_succ])
  refine tillH_take (i := 3) (oi := ?oo4) (v := ?vv4) ?hi4 (by kernel_rfl) (by kernel_rfl) (by kernel_rfl) ?hq4 (by kernel_rfl) (by kernel_rfl) (by kernel_rfl) ?hy4 S0 ?hh4
  case hi4 => (simp only [List.getElem?_toArray, List.getElem?_cons_succ, List.getElem?_cons_zero]; rfl)
  case hq4 => exact fun _ _ _ h => h
  case hy4 => exact Or.inl ⟨by rfl, by (intro W hSw; (try obtain ⟨s0, s1, s2, s3⟩ := hSw); go_simp; (try with_reducible rfl))⟩
  (try simp only [Act.put, List.setIfInBounds_toArray, List.set_cons_zero, List.set_cons_succ])
  refine tillH_take (i := 4) (oi := ?oo5) (v := ?vv5) ?hi5 (by kernel_rfl) (by kernel_rfl) (by kernel_rfl) ?hq5 (by kernel_rfl) (by kernel_rfl) (by kernel_rfl) ?hy5 S0 ?hh5
  case hi5 => (simp only [List.getElem?_toArray, List.getElem?_cons_succ, List.getElem?_cons_zero]; rfl)
  case hq5 => exact fun _ _ _ h => h
  case hy5 => exact Or.inl ⟨by rfl, by (intro W hSw; (try obtain ⟨s0, s1, s2, s3⟩ := hSw); go_simp; (try with_reducible rfl))⟩
  (try simp only [Act.put, List.setIfInBounds_toArray, List.set_cons_zero, List.set_cons_succ])
  refine tillH_next (rs := [5]) (by kernel_rfl) (by simp) ?_
  refine NextH.cons rfl (fun K hK => ?_) NextH.nil
  go_simp
  refine (HO.out _ HBD.out).mono ?_
  rintro e E2 ⟨rfl, b6⟩
  have HB2 := Lib.hid (HBD.out.trans (b6.mono HBD.out.size))
  clear b6 HBD HO
  refine hK.out _ _ (fun h => absurd h (by simp)) ?_
  clear hK K
  (try simp only [Act.put, List.setIfInBounds_toArray, List.set_cons_zero, List.set_cons_succ])
  refine tillH_takeAny (i := 6) (oi := ?oo6) (v := ?vv6) ?hi6 (by kernel_rfl) (by kernel_rfl) (by kernel_rfl) ?hq6 (by kernel_rfl) ?hy6 (fun h => absurd h (by simp)) ?hh6
  case hi6 => (simp only [List.getElem?_toArray, List.getElem?_cons_succ, List.getElem?_cons_zero]; rfl)
  case hq6 => exact fun _ _ _ h => h
  case hy6 => exact Or.inl ⟨by rfl, by (intro W; go_simp; (try with_reducible rfl))⟩
  (try simp only [Act.put, List.setIfInBounds_toArray, List.set_cons_zero, List.set_cons_succ])
  refine tillH_done (by kernel_rfl) ?_ _
  refine HKV.out _ _ ?_
  have HX := Lib.hid (HV.out.below HB2.out HV.out.lt)
  have c0 : E2.cell? ⟨b, 0, none⟩ = some (.int .i64 1) := by rw [HX.out.cell]; rfl
  go_wp2
  go_ret
  exact ⟨rfl, HB2.out⟩
/-- An array, not too deep: its parts, with commas between. -/
theorem object_array {w : World} {m H b T : Nat} {n0 : Int} {s0 : ByteArray} {pr at_ : Int} {clo : Bool} {tb wk fa : Value} {deep : Int} {L : List K3} {ss : List (List UInt8)} {g cap : Nat} (hd : decide (deep > 2) = false) (hd0 : 0 ≤ deep)
    (x0 : w.cell? ⟨m, 0, none⟩ = some (.pointer (some ⟨H, 0, none⟩))) (hB : Blk w b 85 (objA 1 pr clo T (.slice (some ⟨g, 0, none⟩) L.length cap) tb wk fa at_))
    (hOf : ∀ W, Below w.heap.size w W → Calls Tryz.prog 46 #[.pointer (some ⟨H, 0, none⟩), VS 9 n0 s0] W fun e W' => e = .returned (.pointer (some ⟨b, 0, none⟩)) ∧ Below W.heap.size W W')
    (hE : ∀ (i : Nat) k, L[i]? = some k → w.cell? ⟨g, i * 3, none⟩ = some (.int .i64 k.1) ∧ w.cell? ⟨g, i * 3 + 1, none⟩ = some (.int .i64 k.2.1) ∧ w.cell? ⟨g, i * 3 + 2, none⟩ = some (.string k.2.2))
    (hl : ss.length = L.length) (hn : L.length ≤ 1000) (hsz : (jn ss).length ≤ 16000)
    (hS : ∀ (i : Nat) k, L[i]? = some k → ∀ W, Below w.heap.size w W → Calls Tryz.prog 20 #[.pointer (some ⟨m, 0, none⟩), VS k.1 k.2.1 k.2.2, .int .i64 (deep + 1)] W (ShwP ⟨(ss.getD i []).toArray⟩ W)) :
    Calls Tryz.prog 31 #[.pointer (some ⟨m, 0, none⟩), VS 9 n0 s0, .int .i64 deep] w (ShwP ⟨(91 :: (jn ss ++ [93])).toArray⟩ w) := by
  have HE := Lib.hid hE
  have HL := Lib.hid (And.intro hl (And.intro hn hsz))
  have HW := Lib.hid hS
  clear hE hl hn hsz hS
  have b0 : Below w.heap.size w (w.alloc (.cells #[.int .i64 9, .int .i64 n0, .string s0] 30)) := (Below.refl _ _).alloc (Nat.le_refl _) _
  have HO := Lib.hid hOf
  have HB := Lib.hid b0
  have HV := Lib.hid hB
  have bx := Blk.new w 30 #[.int .i64 9, .int .i64 n0, .string s0]
  have HS : Hid ((w.alloc (.cells #[.int .i64 9, .int .i64 n0, .string s0] 30)).cell? ⟨m, 0, none⟩ = some (.pointer (some ⟨H, 0, none⟩)) ∧ (w.alloc (.cells #[.int .i64 9, .int .i64 n0, .string s0] 30)).cell? ⟨w.heap.size, 0, none⟩ = some (.int .i64 9) ∧ (w.alloc (.cells #[.int .i64 9, .int .i64 n0, .string s0] 30)).cell? ⟨w.heap.size, 1, none⟩ = some (.int .i64 n0) ∧ (w.alloc (.cells #[.int .i64 9, .int .i64 n0, .string s0] 30)).cell? ⟨w.heap.size, 2, none⟩ = some (.string s0)) := Lib.hid ⟨(b0.cell (World.block_lt_of_cell? w _ x0)).trans x0, by rw [bx.cell]; rfl, by rw [bx.cell]; rfl, by rw [bx.cell]; rfl⟩
  clear hOf b0 hB x0 bx
  go_enter Tryz.func31, Tryz.ntmps31
  go_wp2_with (fail)
  generalize w.alloc (.cells #[.int .i64 9, .int .i64 n0, .string s0] 30) = W1 at *
  refine wp_var0 (fun KV HKV => ?_)
  refine wp_region_till (m := 5) (S := (fun W => W.cell? ⟨m, 0, none⟩ = some (.pointer (some ⟨H, 0, none⟩)) ∧ W.cell? ⟨w.heap.size, 0, none⟩ = some (.int .i64 9) ∧ W.cell? ⟨w.heap.size, 1, none⟩ = some (.int .i64 n0) ∧ W.cell? ⟨w.heap.size, 2, none⟩ = some (.string s0))) (by kernel_rfl) ?_
  have e4 : W1.drew = W1.drewN 1 := rfl
  rw [e4]
  have S0 : (W1.drewN 1).cell? ⟨m, 0, none⟩ = some (.pointer (some ⟨H, 0, none⟩)) ∧ (W1.drewN 1).cell? ⟨w.heap.size, 0, none⟩ = some (.int .i64 9) ∧ (W1.drewN 1).cell? ⟨w.heap.size, 1, none⟩ = some (.int .i64 n0) ∧ (W1.drewN 1).cell? ⟨w.heap.size, 2, none⟩ = some (.string s0) := HS.out
  have HBD := Lib.hid (below_drw HB.out 1)
  clear e4 HS HB
  generalize W1.drewN 1 = E1 at *
  change tillH _ _ _ _ _ _ 7 #[false, false, false, false, false, false, false] _ _
  refine tillH_takeAny (i := 0) (oi := ?ooa7) (v := ?vva7) ?hia7 (by kernel_rfl) (by kernel_rfl) (by kernel_rfl) ?hqa7 (by kernel_rfl) ?hya7 (fun _ => S0) ?hha7
  case hia7 => (simp only [List.getElem?_toArray, List.getElem?_cons_succ, List.getElem?_cons_zero]; rfl)
  case hqa7 => exact fun _ _ _ h => h
  case hya7 => exact Or.inl ⟨by rfl, by (intro W; go_simp; (try with_reducible rfl))⟩
  (try simp only [Act.put, List.setIfInBounds_toArray, List.set_cons_zero, List.set_cons_succ])
  refine tillH_takeAny (i := 1) (oi := ?ooa8) (v := ?vva8) ?hia8 (by kernel_rfl) (by kernel_rfl) (by kernel_rfl) ?hqa8 (by kernel_rfl) ?hya8 (fun _ => S0) ?hha8
  case hia8 => (simp only [List.getElem?_toArray, List.getElem?_cons_succ, List.getElem?_cons_zero]; rfl)
  case hqa8 => exact fun _ _ _ h => h
  case hya8 => exact Or.inl ⟨by rfl, by (intro W; go_simp; (try with_reducible rfl))⟩
  (try simp only [Act.put, List.setIfInBounds_toArray, List.set_cons_zero, List.set_cons_succ])
  refine tillH_takeAny (i := 2) (oi := ?ooa9) (v := ?vva9) ?hia9 (by kernel_rfl) (by kernel_rfl) (by kernel_rfl) ?hqa9 (by kernel_rfl) ?hya9 (fun _ => S0) ?hha9
  case hia9 => (simp only [List.getElem?_toArray, List.getElem?_cons_succ, List.getElem?_cons_zero]; rfl)
  case hqa9 => exact fun _ _ _ h => h
  case hya9 => exact Or.inl ⟨by rfl, by (intro W; go_simp; (try with_reducible rfl))⟩
  (try simp only [Act.put, List.setIfInBounds_toArray, List.set_cons_zero, List.set_cons_succ])
  refine tillH_take (i := 3) (oi := ?ooa10) (v := ?vva10) ?hia10 (by kernel_rfl) (by kernel_rfl) (by kernel_rfl) ?hqa10 (by kernel_rfl) (by kernel_rfl) (by kernel_rfl) ?hya10 S0 ?hha10
  case hia10 => (simp only [List.getElem?_toArray, List.getElem?_cons_succ, List.getElem?_cons_zero]; rfl)
  case hqa10 => exact fun _ _ _ h => h
  case hya10 => exact Or.inl ⟨by rfl, by (intro W hSw; (try obtain ⟨s0, s1, s2, s3⟩ := hSw); go_simp; (try with_reducible rfl))⟩
  (try simp only [Act.put, List.setIfInBounds_toArray, List.set_cons_zero, List.set_cons_succ])
  refine tillH_take (i := 4) (oi := ?ooa11) (v := ?vva11) ?hia11 (by kernel_rfl) (by kernel_rfl) (by kernel_rfl) ?hqa11 (by kernel_rfl) (by kernel_rfl) (by kernel_rfl) ?hya11 S0 ?hha11
  case hia11 => (simp only [List.getElem?_toArray, List.getElem?_cons_succ, List.getElem?_cons_zero]; rfl)
  case hqa11 => exact fun _ _ _ h => h
  case hya11 => exact Or.inl ⟨by rfl, by (intro W hSw; (try obtain ⟨s0, s1, s2, s3⟩ := hSw); go_simp; (try with_reducible rfl))⟩
  (try simp only [Act.put, List.setIfInBounds_toArray, List.set_cons_zero, List.set_cons_succ])
  refine tillH_next (rs := [5]) (by kernel_rfl) (by simp) ?_
  refine NextH.cons rfl (fun K hK => ?_) NextH.nil
  go_simp
  refine (HO.out _ HBD.out).mono ?_
  rintro e E2 ⟨rfl, b6⟩
  have HB2 := Lib.hid (HBD.out.trans (b6.mono HBD.out.size))
  clear b6 HBD HO
  refine hK.out _ _ (fun h => absurd h (by simp)) ?_
  clear hK K
  (try simp only [Act.put, List.setIfInBounds_toArray, List.set_cons_zero, List.set_cons_succ])
  refine tillH_takeAny (i := 6) (oi := ?ooa12) (v := ?vva12) ?hia12 (by kernel_rfl) (by kernel_rfl) (by kernel_rfl) ?hqa12 (by kernel_rfl) ?hya12 (fun h => absurd h (by simp)) ?hha12
  case hia12 => (simp only [List.getElem?_toArray, List.getElem?_cons_succ, List.getElem?_cons_zero]; rfl)
  case hqa12 => exact fun _ _ _ h => h
  case hya12 => exact Or.inl ⟨by rfl, by (intro W; go_simp; (try with_reducible rfl))⟩
  (try simp only [Act.put, List.setIfInBounds_toArray, List.set_cons_zero, List.set_cons_succ])
  refine tillH_done (by kernel_rfl) ?_ _
  refine HKV.out _ _ ?_
  have HX := Lib.hid (HV.out.below HB2.out HV.out.lt)
  have c0 : E2.cell? ⟨b, 0, none⟩ = some (.int .i64 1) := by rw [HX.out.cell]; rfl
  have HF := Lib.hid (show Lib.IsBuilderF 109 5 E2.heap.size E2.heap.size [] (E2.alloc (.cells #[.pointer none, .slice none 0 0] 109)) from Lib.IsBuilderF.of (Lib.fresh_isBuilder 109 5 E2))
  have hz : E2.heap.size ≤ (E2.alloc (.cells #[.pointer none, .slice none 0 0] 109)).heap.size := by simp
  have ba := HB2.out.alloc HB2.out.size (.cells #[.pointer none, .slice none 0 0] 109)
  have hD := HB2.out.size
  go_wp2_with (fail)
  refine (Tx.WriteString_k E2.heap.size E2.heap.size [] ⟨#[91]⟩ _ HF.out (by decide) hz).mono ?_
  rintro e E3 ⟨rfl, hb, bb, -⟩
  have HG := Lib.hid (And.intro (show Lib.IsBuilderF 109 5 E2.heap.size E2.heap.size (Lib.byteCells [91]) E3 from Or.inr hb) (ba.trans (bb.mono hD)))
  have HX3 := Lib.hid (HV.out.below HG.out.2 HV.out.lt)
  clear HF hz ba hb bb HX c0 HB2 S0
  generalize E2.heap.size = D at *
  have c4 : E3.cell? ⟨b, 4, none⟩ = some (.slice (some ⟨g, 0, none⟩) L.length cap) := by rw [HX3.out.cell]; rfl
  go_wp2_with (fail)
  go_loopw [42] (fun v wr => ∃ i : Nat, v = .int .i64 (i : Int) ∧ i ≤ L.length ∧ Hid (Lib.IsBuilderF 109 5 D D (Lib.byteCells (91 :: jn (ss.take i))) wr ∧ Below w.heap.size w wr)) (fun v _ => L.length - (intOf v).toNat)
  case atStart => exact ⟨0, rfl, Nat.zero_le _, HG⟩
  case round =>
    obtain ⟨i, rfl, hi0, HI⟩ := hrel
    by_cases hi : i < L.length
    · have hlt0 := hi
      obtain ⟨k, hk⟩ : ∃ k, L[i]? = some k := ⟨_, List.getElem?_eq_getElem hi⟩
      obtain ⟨k1, k2, k3⟩ := k
      have f0 := HE.out i _ hk
      have q0 : wr.cell? ⟨g, i * 3, none⟩ = some (.int .i64 k1) := (HI.out.2.cell (World.block_lt_of_cell? w _ f0.1)).trans f0.1
      have q1 : wr.cell? ⟨g, i * 3 + 1, none⟩ = some (.int .i64 k2) := (HI.out.2.cell (World.block_lt_of_cell? w _ f0.2.1)).trans f0.2.1
      have q2 : wr.cell? ⟨g, i * 3 + 2, none⟩ = some (.string k3) := (HI.out.2.cell (World.block_lt_of_cell? w _ f0.2.2)).trans f0.2.2
      have t3 : decide ((i : Int) < (L.length : Int)) = true := by simp; omega
      have z0 : (0 : Int) ≤ (i : Int) := by omega
      have z1 : (i : Int) < (L.length : Int) := by omega
      have ac : IntKind.i64.wrap ((i : Int) + 1) = (i : Int) + 1 := IntWalk.i64_in _ (by have := HL.out; omega)
      have ad : IntKind.i64.wrap (deep + 1) = deep + 1 := IntWalk.i64_in _ (by have := of_decide_eq_false hd; omega)
      have HW2 := Lib.hid (HW.out i _ hk)
      have hle := jn_len ss i
      have htk := jn_take ss i (by have := HL.out.1; omega)
      have HT := Lib.hid (And.intro htk (And.intro hle (And.intro (jn_len ss (i + 1)) HL.out)))
      have HN : Hid ((ss.getD i []).length ≤ 16000) := Lib.hid (by have h7 := HT.out; have h8 := congrArg List.length h7.1; simp only [List.length_append] at h8; omega)
      obtain ⟨n1, hn1⟩ : ∃ n1, (Lib.byteCells (91 :: jn (ss.take i))).length = n1 := ⟨_, rfl⟩
      have hn2 : n1 ≤ 16001 := by rw [← hn1]; have := HL.out.2.2; simp [Lib.byteCells]; omega
      have t5 : decide ((n1 : Int) > 16384) = false := by simp; omega
      have hbx := HI.out.2.alloc HI.out.2.size (.cells #[.int .i64 k1, .int .i64 k2, .string k3] 30)
      have hb2 := (Below.refl wr.heap.size wr).alloc (Nat.le_refl _) (.cells #[.int .i64 k1, .int .i64 k2, .string k3] 30)
      have hDl : D < wr.heap.size := by rcases HI.out.1 with h | h <;> exact h.lt
      have HJ := Lib.hid (And.intro (bIs_below HI.out.1 hb2) (And.intro hbx (And.intro (Blk.new wr 30 #[.int .i64 k1, .int .i64 k2, .string k3]) hDl)))
      clear f0 hle htk hbx hb2 hDl hk HI HG c4 HX3 hi
      go_wp2_with (fail)
      clear q0 q1 q2
      generalize wr.alloc (.cells #[.int .i64 k1, .int .i64 k2, .string k3] 30) = w3 at *
      generalize wr.heap.size = X at *
      refine (Tryz.Builder_Len_f D D _ w3 HJ.out.1).mono ?_
      rintro e w3' ⟨rfl, rfl⟩
      rw [hn1]
      by_cases h0 : 0 < i
      · have t6 : decide ((i : Int) > 0) = true := by simp; omega
        have HT0 := Lib.hid h0
        clear h0
        go_wp2_with (fail)
        refine (Tx.WriteString_k D D _ ⟨#[44, 32]⟩ _ HJ.out.1 (by rw [hn1]; show n1 + 2 ≤ _; omega) (by rcases HJ.out.1 with h | h <;> exact Nat.le_of_lt h.lt)).mono ?_
        rintro e w4 ⟨rfl, hb4, b4, o4⟩
        have HK := Lib.hid (And.intro (show Lib.IsBuilderF 109 5 D D (Lib.byteCells (91 :: jn (ss.take i)) ++ Lib.strCells ⟨#[44, 32]⟩) w4 from Or.inr hb4) (And.intro (HJ.out.2.1.trans (b4.mono hD)) (And.intro (show Blk w4 X 30 #[.int .i64 k1, .int .i64 k2, .string k3] from o4 X _ HJ.out.2.2.1 (fun e => by have := HJ.out.2.2.2; cases e; omega) (fun c fz e => by cases e)) HJ.out.2.2.2)))
        clear hb4 b4 o4 HJ
        have y0 : w4.cell? ⟨X, 0, none⟩ = some (.int .i64 k1) := by rw [HK.out.2.2.1.cell]; rfl
        have y1 : w4.cell? ⟨X, 1, none⟩ = some (.int .i64 k2) := by rw [HK.out.2.2.1.cell]; rfl
        have y2 : w4.cell? ⟨X, 2, none⟩ = some (.string k3) := by rw [HK.out.2.2.1.cell]; rfl
        go_wp2_with (fail)
        refine (HW2.out w4 HK.out.2.1).mono ?_
        rintro e w5 ⟨rfl, b5⟩
        have HL5 := Lib.hid (And.intro (bIs_below HK.out.1 b5) (And.intro (HK.out.2.1.trans (b5.mono HK.out.2.1.size)) b5.size))
        clear y0 y1 y2 b5
        go_wp2_with (fail)
        refine (Tx.WriteString_k D D _ ⟨(ss.getD i []).toArray⟩ w5 HL5.out.1 (by have h9 := HN.out; rw [List.length_append, hn1]; show n1 + 2 + (ss.getD i []).toArray.size ≤ _; rw [List.size_toArray]; omega) (by rcases HL5.out.1 with h | h <;> exact Nat.le_of_lt h.lt)).mono ?_
        rintro e w6 ⟨rfl, hb6, b6, -⟩
        have HM : Hid (Lib.IsBuilderF 109 5 D D (Lib.byteCells (91 :: jn (ss.take (i + 1)))) w6 ∧ Below w.heap.size w w6) := by
          refine Lib.hid ⟨?_, HL5.out.2.1.trans (b6.mono hD)⟩
          rw [HT.out.1]
          refine Or.inr ?_
          simpa [Lib.byteCells, Lib.strCells, HT0.out] using hb6
        clear hb6 b6
        go_wp2_with (fail)
        go_roundw
        case rel => exact ⟨i + 1, rfl, by omega, HM⟩
        case measure => simp [intOf]; omega
      · have t6 : decide ((i : Int) > 0) = false := by simp; omega
        have HK := HJ
        have HT0 := Lib.hid h0
        clear h0 HJ
        have y0 : w3'.cell? ⟨X, 0, none⟩ = some (.int .i64 k1) := by rw [HK.out.2.2.1.cell]; rfl
        have y1 : w3'.cell? ⟨X, 1, none⟩ = some (.int .i64 k2) := by rw [HK.out.2.2.1.cell]; rfl
        have y2 : w3'.cell? ⟨X, 2, none⟩ = some (.string k3) := by rw [HK.out.2.2.1.cell]; rfl
        go_wp2_with (fail)
        refine (HW2.out w3' HK.out.2.1).mono ?_
        rintro e w5 ⟨rfl, b5⟩
        have HL5 := Lib.hid (And.intro (bIs_below HK.out.1 b5) (And.intro (HK.out.2.1.trans (b5.mono HK.out.2.1.size)) b5.size))
        clear y0 y1 y2 b5
        go_wp2_with (fail)
        refine (Tx.WriteString_k D D _ ⟨(ss.getD i []).toArray⟩ w5 HL5.out.1 (by have h9 := HN.out; rw [hn1]; show n1 + (ss.getD i []).toArray.size ≤ _; rw [List.size_toArray]; omega) (by rcases HL5.out.1 with h | h <;> exact Nat.le_of_lt h.lt)).mono ?_
        rintro e w6 ⟨rfl, hb6, b6, -⟩
        have HM : Hid (Lib.IsBuilderF 109 5 D D (Lib.byteCells (91 :: jn (ss.take (i + 1)))) w6 ∧ Below w.heap.size w w6) := by
          refine Lib.hid ⟨?_, HL5.out.2.1.trans (b6.mono hD)⟩
          rw [HT.out.1]
          refine Or.inr ?_
          simpa [Lib.byteCells, Lib.strCells, HT0.out] using hb6
        clear hb6 b6
        go_wp2_with (fail)
        go_roundw
        case rel => exact ⟨i + 1, rfl, by omega, HM⟩
        case measure => simp [intOf]; omega
    · have hin : i = L.length := by omega
      have t3 : decide ((i : Int) < (L.length : Int)) = false := by simp; omega
      have hx : ss.take i = ss := List.take_of_length_le (by have := HL.out.1; omega)
      rw [hx] at HI
      go_wp2_with (fail)
      refine (Tryz.Builder_String_any_k D D (91 :: jn ss) wr HI.out.1 (by have := HI.out.1; rcases this with h | h <;> exact Nat.le_of_lt h.lt)).mono ?_
      rintro e w5 ⟨rfl, -, b5, -⟩
      have HB5 := Lib.hid (HI.out.2.trans (b5.mono hD))
      clear b5
      have t7 : ¬ 9223372036854775807 < (jn ss).length + 1 + 1 := by have := HL.out.2.2; omega
      go_wp2_with (fail)
      go_ret
      exact ⟨congrArg (fun b => Ending.returned (.string b)) (ByteArray.ext (by first | rfl | (apply Array.ext'; simp [ByteArray.data_append]))), HB5.out⟩
end Go.Proofs.YtdeboajjhpecbaaGreatDoor.Hp

/- Show: cut, Show. -/
set_option linter.unusedVariables false
set_option linter.unusedSimpArgs false
namespace Go.Proofs.YtdeboajjhpecbaaGreatDoor.Hp
open Go.RowKit Go.Proofs.YtdeboajjhpecbaaGreatDoor Go.Shelf
set_option maxHeartbeats 4000000 in
theorem cut_any (s : ByteArray) (hs : s.size ≤ 16384) (w : World) : Calls Tryz.prog 19 #[.string s] w (ShwP s w) := by
  have t1 : decide ((s.size : Int) ≤ 16384) = true := by simp; omega
  go_enter Tryz.func19, Tryz.ntmps19
  go_wp2_with (fail)
  have hm : (min ((s.size : Int)) 16384).toNat = s.size := by omega
  rw [hm]
  have hx : s.extract 0 s.size = s := by simp
  rw [hx]
  go_ret
  exact ⟨rfl, Below.refl _ _⟩
set_option maxHeartbeats 4000000 in
theorem Show_any (m : Nat) (k n : Int) (s g : ByteArray) (hg : g.size ≤ 16384) (w : World)
    (hS : ∀ W, Below w.heap.size w W → Calls Tryz.prog 20 #[.pointer (some ⟨m, 0, none⟩), VS k n s, .int .i64 0] W (ShwP g W)) :
    Calls Tryz.prog 9 #[.pointer (some ⟨m, 0, none⟩), VS k n s] w (ShwP g w) := by
  have b0 : Below w.heap.size w (w.alloc (.cells #[.int .i64 k, .int .i64 n, .string s] 30)) := (Below.refl _ _).alloc (Nat.le_refl _) _
  have HS := Lib.hid (hS _ b0)
  have HB := Lib.hid b0
  clear hS b0
  go_enter Tryz.func9, Tryz.ntmps9
  go_wp2_with (fail)
  refine HS.out.mono ?_
  rintro e w1 ⟨rfl, b1⟩
  have HB1 := Lib.hid (HB.out.trans (b1.mono HB.out.size))
  clear b1 HS HB
  go_wp2_with (fail)
  refine (cut_any g hg _).mono ?_
  rintro e w2 ⟨rfl, b2⟩
  have HB2 := Lib.hid (HB1.out.trans (b2.mono HB1.out.size))
  clear b2 HB1
  go_wp2
  go_ret
  exact ⟨rfl, HB2.out⟩
end Go.Proofs.YtdeboajjhpecbaaGreatDoor.Hp
