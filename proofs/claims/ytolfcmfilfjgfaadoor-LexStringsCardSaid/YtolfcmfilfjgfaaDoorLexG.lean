/- The token at a place: what 'one' computes. -/
import Derived.Test.YtolfcmfilfjgfaaDoorLexD
import Derived.Test.YtolfcmfilfjgfaaDoorLexF
import Derived.Lib.LaidTab
import Derived.Lib.AppendIntMem
set_option linter.unusedVariables false
set_option linter.unusedSimpArgs false
namespace Go.Proofs.YtolfcmfilfjgfaaDoor
open Go.RowKit

/-- strings.Fields' table reads as it was laid. -/
def Tb (w : World) : Prop := Lib.TabIs Tryd.prog w "strings.asciiSpace" .u8 Lib.asciiSpaceTab
theorem Tb.below {w W : World} (h : Tb w) (b : Below w.heap.size w W) : Tb W := Lib.tabBelow_of_tabIs h W b
def signsText : ByteArray := ⟨#[46, 46, 46, 32, 61, 61, 61, 32, 33, 61, 61, 32, 38, 38, 32, 124, 124, 32, 63, 63, 32, 61, 62, 32, 43, 43, 32, 45, 45, 32, 43, 61, 32, 45, 61, 32, 42, 61, 32, 47, 61, 32, 37, 61, 32, 60, 61, 32, 62, 61, 32, 40, 32, 41, 32, 91, 32, 93, 32, 123, 32, 125, 32, 46, 32, 44, 32, 59, 32, 58, 32, 63, 32, 33, 32, 61, 32, 43, 32, 45, 32, 42, 32, 47, 32, 37, 32, 60, 32, 62]⟩
def signsL : List (List UInt8) := [[46, 46, 46], [61, 61, 61], [33, 61, 61], [38, 38], [124, 124], [63, 63], [61, 62], [43, 43], [45, 45], [43, 61], [45, 61], [42, 61], [47, 61], [37, 61], [60, 61], [62, 61], [40], [41], [91], [93], [123], [125], [46], [44], [59], [58], [63], [33], [61], [43], [45], [42], [47], [37], [60], [62]]
def signsV : Array Value := (signsL.map fun l => Value.string ⟨l.toArray⟩).toArray
theorem fields_signs : Lib.fields signsText.data.toList = signsL := by decide
theorem ascii_signs : ∀ (j : Nat) b, signsText.data.toList[j]? = some b → b.toNat < 128 := by
  intro j b h
  have hm := List.mem_of_getElem? h
  have : signsText.data.toList.all (fun b => b.toNat < 128) = true := by decide
  simpa using List.all_eq_true.1 this b hm
theorem fields_any (w : World) (h : Tb w) :
    Calls Tryd.prog 20 #[.string signsText] w fun e w' => e = .returned (.slice (some ⟨w.heap.size, 0, none⟩) 36 36) ∧ w' = w.alloc (.cells signsV 9) := by
  have := Tryd.strings_Fields signsText w (by decide) ascii_signs h
  rw [fields_signs] at this
  exact this
theorem signsL_len : signsL.length = 36 := rfl
theorem signsV_at (k : Nat) (h : k < 36) : signsV[k]? = some (.string ⟨(signsL.getD k []).toArray⟩) := by
  unfold signsV
  rw [List.getElem?_toArray, List.getElem?_map, List.getElem?_eq_getElem (by rw [signsL_len]; exact h), List.getD_eq_getElem?_getD, List.getElem?_eq_getElem (by rw [signsL_len]; exact h)]
  rfl

abbrev TokL := Nat × List UInt8 × Nat × Nat
/-- The token that stands ahead: kind, text, number, length. -/
def oneL : List UInt8 → Option TokL
  | [] => none
  | c :: r =>
    if letterB c then (if nameN (c :: r) ≤ 60 then some (if wordB ((c :: r).take (nameN (c :: r))) then 2 else 1, (c :: r).take (nameN (c :: r)), 0, nameN (c :: r)) else none)
    else if digitB c then (match numL 0 (c :: r) with
      | none => none
      | some (N, n) => if numOk (c :: r) n then some (3, (c :: r).take n, N, n) else none)
    else if c == 34 || c == 39 then (quoL c 0 r [] []).map fun x => (4, x.1, 0, x.2 + 1)
    else (signsL.find? fun x => Lib.hasPrefix (c :: r) x).map fun x => (5, x, 0, x.length)
def OneR (O : Option TokL) (a : Nat) (t : Value) (F : Int) (ok : Bool) : Prop :=
  match O with
  | none => ok = false
  | some (k, x, N, n) => t = TokV k ⟨x.toArray⟩ 0 N ∧ F = ((a + n : Nat) : Int) ∧ ok = true
theorem ext_take (s : ByteArray) (a n : Nat) : s.extract a (a + n) = ⟨((s.data.toList.drop a).take n).toArray⟩ := by
  have := ext_piece s a (a + n)
  rw [Nat.add_sub_cancel_left] at this
  rw [← this]

def OnePost (O : Option TokL) (a : Nat) (w : World) (e : Ending) (w' : World) : Prop :=
  ∃ k txt N F ok, e = .returned (.tuple #[TokV k txt 0 N, .int .i64 F, .bool ok]) ∧ OneR O a (TokV k txt 0 N) F ok ∧ Below w.heap.size w w'

set_option maxHeartbeats 1000000 in
set_option maxRecDepth 100000 in
theorem one_name (s : ByteArray) (a : Nat) (O : Option TokL) (w : World) (ha : a < s.size) (hs : s.size ≤ 16384) (HL : Hid (letterB s[a] = true))
    (HC : ∀ W, Below w.heap.size w W → Calls Tryd.prog 16 #[.string s, .int .i64 a] W (OnePost O a W)) :
    Calls Tryd.prog 11 #[.string s, .int .i64 a] w (OnePost O a w) := by
  have hlen := len_of s
  have xa0 : (0 : Int) ≤ a := by omega
  have xa1 : (a : Int) < s.size := by omega
  have xa2 : (a : Int).toNat = a := by omega
  go_enter Tryd.func11, Tryd.ntmps11
  go_wp2_with fail
  refine (letter_any _ _).mono ?_
  rintro e w' ⟨rfl, rfl⟩
  rw [HL.out]
  go_wp2_with fail
  refine (HC _ ((Below.refl _ w).alloc (Nat.le_refl _) (.cells #[.int .i64 0, .string ⟨#[]⟩, .int .i64 0, .int .i64 0] 31))).mono ?_
  rintro e W ⟨k, txt, N, F, ok, rfl, hr, b⟩
  have kb : Blk W w.heap.size 31 #[.int .i64 0, .string ⟨#[]⟩, .int .i64 0, .int .i64 0] := (Blk.new w _ _).below b (by simp)
  have bb : Below w.heap.size w W := ((Below.refl _ w).alloc (Nat.le_refl _) _).trans (b.mono (by simp))
  have HR := Lib.hid hr
  clear hr b HC
  have x0 : W.cell? ⟨w.heap.size, 0, none⟩ = some (.int .i64 0) := by rw [kb.cell]; rfl
  have xf0 := kb.frozen 0
  have x1 : W.cell? ⟨w.heap.size, 1, none⟩ = some (.string ⟨#[]⟩) := by rw [kb.cell]; rfl
  have xf1 := kb.frozen 1
  have x2 : W.cell? ⟨w.heap.size, 2, none⟩ = some (.int .i64 0) := by rw [kb.cell]; rfl
  have xf2 := kb.frozen 2
  have x3 : W.cell? ⟨w.heap.size, 3, none⟩ = some (.int .i64 0) := by rw [kb.cell]; rfl
  have xf3 := kb.frozen 3
  have xl := kb.lt
  go_wp2
  exact bodyPost_ret (v := .tuple #[TokV k txt 0 N, .int .i64 F, .bool ok]) (by simp [results, Tryd.results11, go_sem, x0, x1, x2, x3, xl]) rfl ⟨k, txt, N, F, ok, rfl, HR.out, by repeat (first | with_reducible assumption | (refine Below.setCell ?_ (by first | omega | (simp; omega) | simp) _))⟩
set_option maxHeartbeats 1000000 in
set_option maxRecDepth 100000 in
theorem one_number (s : ByteArray) (a : Nat) (O : Option TokL) (w : World) (ha : a < s.size) (hs : s.size ≤ 16384) (HL : Hid (letterB s[a] = false)) (HG : Hid (digitB s[a] = true))
    (HC : ∀ W, Below w.heap.size w W → Calls Tryd.prog 18 #[.string s, .int .i64 a] W (OnePost O a W)) :
    Calls Tryd.prog 11 #[.string s, .int .i64 a] w (OnePost O a w) := by
  have hlen := len_of s
  have xa0 : (0 : Int) ≤ a := by omega
  have xa1 : (a : Int) < s.size := by omega
  have xa2 : (a : Int).toNat = a := by omega
  go_enter Tryd.func11, Tryd.ntmps11
  go_wp2_with fail
  refine (letter_any _ _).mono ?_
  rintro e w' ⟨rfl, rfl⟩
  rw [HL.out]
  go_wp2_with fail
  refine (digit_any _ _).mono ?_
  rintro e w' ⟨rfl, rfl⟩
  rw [HG.out]
  go_wp2_with fail
  refine (HC _ ((Below.refl _ w).alloc (Nat.le_refl _) (.cells #[.int .i64 0, .string ⟨#[]⟩, .int .i64 0, .int .i64 0] 31))).mono ?_
  rintro e W ⟨k, txt, N, F, ok, rfl, hr, b⟩
  have kb : Blk W w.heap.size 31 #[.int .i64 0, .string ⟨#[]⟩, .int .i64 0, .int .i64 0] := (Blk.new w _ _).below b (by simp)
  have bb : Below w.heap.size w W := ((Below.refl _ w).alloc (Nat.le_refl _) _).trans (b.mono (by simp))
  have HR := Lib.hid hr
  clear hr b HC
  have x0 : W.cell? ⟨w.heap.size, 0, none⟩ = some (.int .i64 0) := by rw [kb.cell]; rfl
  have xf0 := kb.frozen 0
  have x1 : W.cell? ⟨w.heap.size, 1, none⟩ = some (.string ⟨#[]⟩) := by rw [kb.cell]; rfl
  have xf1 := kb.frozen 1
  have x2 : W.cell? ⟨w.heap.size, 2, none⟩ = some (.int .i64 0) := by rw [kb.cell]; rfl
  have xf2 := kb.frozen 2
  have x3 : W.cell? ⟨w.heap.size, 3, none⟩ = some (.int .i64 0) := by rw [kb.cell]; rfl
  have xf3 := kb.frozen 3
  have xl := kb.lt
  go_wp2
  exact bodyPost_ret (v := .tuple #[TokV k txt 0 N, .int .i64 F, .bool ok]) (by simp [results, Tryd.results11, go_sem, x0, x1, x2, x3, xl]) rfl ⟨k, txt, N, F, ok, rfl, HR.out, by repeat (first | with_reducible assumption | (refine Below.setCell ?_ (by first | omega | (simp; omega) | simp) _))⟩
set_option maxHeartbeats 1000000 in
set_option maxRecDepth 100000 in
theorem one_quoted (s : ByteArray) (a : Nat) (O : Option TokL) (w : World) (ha : a < s.size) (hs : s.size ≤ 16384) (HL : Hid (letterB s[a] = false)) (HG : Hid (digitB s[a] = false)) (HQ : s[a] = 34 ∨ s[a] = 39)
    (HC : ∀ W, Below w.heap.size w W → Calls Tryd.prog 19 #[.string s, .int .i64 a] W (OnePost O a W)) :
    Calls Tryd.prog 11 #[.string s, .int .i64 a] w (OnePost O a w) := by
  have hlen := len_of s
  have xa0 : (0 : Int) ≤ a := by omega
  have xa1 : (a : Int) < s.size := by omega
  have xa2 : (a : Int).toNat = a := by omega
  obtain ⟨g1, e1⟩ : ∃ g, ((s[a].toNat : Int) == 34) = g := ⟨_, rfl⟩
  obtain ⟨g2, e2⟩ : ∃ g, ((s[a].toNat : Int) == 39) = g := ⟨_, rfl⟩
  have hq : (g1 || g2) = true := by rw [← e1, ← e2]; rcases HQ with h | h <;> rw [h] <;> rfl
  clear HQ
  cases g1 <;> cases g2
  all_goals first | (exfalso; revert hq; decide) | skip
  all_goals clear hq
  all_goals
    go_enter Tryd.func11, Tryd.ntmps11
    go_wp2_with fail
    refine (letter_any _ _).mono ?_
    rintro e w' ⟨rfl, rfl⟩
    rw [HL.out]
    go_wp2_with fail
    refine (digit_any _ _).mono ?_
    rintro e w' ⟨rfl, rfl⟩
    rw [HG.out]
    go_wp2_with fail
    refine (HC _ ((Below.refl _ w).alloc (Nat.le_refl _) (.cells #[.int .i64 0, .string ⟨#[]⟩, .int .i64 0, .int .i64 0] 31))).mono ?_
    rintro e W ⟨k, txt, N, F, ok, rfl, hr, b⟩
    have kb : Blk W w.heap.size 31 #[.int .i64 0, .string ⟨#[]⟩, .int .i64 0, .int .i64 0] := (Blk.new w _ _).below b (by simp)
    have bb : Below w.heap.size w W := ((Below.refl _ w).alloc (Nat.le_refl _) _).trans (b.mono (by simp))
    have HR := Lib.hid hr
    clear hr b HC
    have x0 : W.cell? ⟨w.heap.size, 0, none⟩ = some (.int .i64 0) := by rw [kb.cell]; rfl
    have xf0 := kb.frozen 0
    have x1 : W.cell? ⟨w.heap.size, 1, none⟩ = some (.string ⟨#[]⟩) := by rw [kb.cell]; rfl
    have xf1 := kb.frozen 1
    have x2 : W.cell? ⟨w.heap.size, 2, none⟩ = some (.int .i64 0) := by rw [kb.cell]; rfl
    have xf2 := kb.frozen 2
    have x3 : W.cell? ⟨w.heap.size, 3, none⟩ = some (.int .i64 0) := by rw [kb.cell]; rfl
    have xf3 := kb.frozen 3
    have xl := kb.lt
    go_wp2
    exact bodyPost_ret (v := .tuple #[TokV k txt 0 N, .int .i64 F, .bool ok]) (by simp [results, Tryd.results11, go_sem, x0, x1, x2, x3, xl]) rfl ⟨k, txt, N, F, ok, rfl, HR.out, by repeat (first | with_reducible assumption | (refine Below.setCell ?_ (by first | omega | (simp; omega) | simp) _))⟩

set_option maxHeartbeats 1000000 in
set_option maxRecDepth 100000 in
theorem one_sign (s : ByteArray) (a : Nat) (O : Option TokL) (w : World) (ha : a < s.size) (hs : s.size ≤ 16384) (tb : Tb w) (HL : Hid (letterB s[a] = false)) (HG : Hid (digitB s[a] = false)) (HQ : ¬ s[a] = 34 ∧ ¬ s[a] = 39)
    (HO : Hid ((signsL.find? fun x => Lib.hasPrefix (s.data.toList.drop a) x).map (fun x => ((5, x, 0, x.length) : TokL)) = O)) :
    Calls Tryd.prog 11 #[.string s, .int .i64 a] w (OnePost O a w) := by
  have hlen := len_of s
  have xa0 : (0 : Int) ≤ a := by omega
  have xa1 : (a : Int) < s.size := by omega
  have xa2 : (a : Int).toNat = a := by omega
  have xa3 : (a : Int) ≤ s.size := by omega
  have e1 : ((s[a].toNat : Int) == 34) = false := by have := u8_eq s[a] 34; rw [beq_eq_false_iff_ne.2 HQ.1] at this; exact this.symm
  have e2 : ((s[a].toNat : Int) == 39) = false := by have := u8_eq s[a] 39; rw [beq_eq_false_iff_ne.2 HQ.2] at this; exact this.symm
  clear HQ
  go_enter Tryd.func11, Tryd.ntmps11
  go_wp2_with fail
  refine (letter_any _ _).mono ?_
  rintro e w' ⟨rfl, rfl⟩
  rw [HL.out]
  go_wp2_with fail
  refine (digit_any _ _).mono ?_
  rintro e w' ⟨rfl, rfl⟩
  rw [HG.out]
  go_wp2_with fail
  refine (fields_any _ (tb.below ((Below.refl _ w).alloc (Nat.le_refl _) _))).mono ?_
  rintro e W ⟨rfl, hW⟩
  have kb : Blk W w.heap.size 31 #[.int .i64 0, .string ⟨#[]⟩, .int .i64 0, .int .i64 0] := by rw [hW]; exact (Blk.new w _ _).alloc _
  have kv : Blk W (w.heap.size + 1) 9 signsV := by
    have := Blk.new (w.alloc (.cells #[.int .i64 0, .string ⟨#[]⟩, .int .i64 0, .int .i64 0] 31)) 9 signsV
    rw [World.size_alloc] at this
    rw [hW]; exact this
  have bb : Below w.heap.size w W := by rw [hW]; exact ((Below.refl _ w).alloc (Nat.le_refl _) _).alloc (by simp) _
  have hsz : (w.alloc (.cells #[.int .i64 0, .string ⟨#[]⟩, .int .i64 0, .int .i64 0] 31)).heap.size = w.heap.size + 1 := by simp
  rw [hsz]
  clear hW hsz tb HL HG
  go_wp2_with fail
  go_loop [46] (fun vi => ∃ k : Nat, k ≤ 36 ∧ vi = .int .i64 k ∧ ((signsL.drop k).find? fun x => Lib.hasPrefix (s.data.toList.drop a) x).map (fun x => ((5, x, 0, x.length) : TokL)) = O) (fun vi => 36 - (intOf vi).toNat)
  case atStart => exact ⟨0, by omega, rfl, HO.out⟩
  case round =>
    obtain ⟨k, hk, rfl, h1⟩ := hrel
    have H1 := Lib.hid h1
    clear h1
    by_cases hl : k < 36
    · have L1 : decide ((k : Int) < 36) = true := by simp; omega
      have y0 : (0 : Int) ≤ k := by omega
      have y1 : (k : Int) < 36 := by omega
      have y2 : (k : Int).toNat = k := by omega
      have a1 : IntKind.i64.wrap ((k : Int) + 1) = ((k + 1 : Nat) : Int) := by rw [IntWalk.i64_in _ (by omega)]; rfl
      have hc : W.cell? ⟨w.heap.size + 1, k, none⟩ = some (.string ⟨(signsL.getD k []).toArray⟩) := by rw [kv.cell]; exact signsV_at k hl
      obtain ⟨x, hx⟩ : ∃ x, signsL.getD k [] = x := ⟨_, rfl⟩
      have hdr : signsL.drop k = x :: signsL.drop (k + 1) := by
        rw [List.drop_eq_getElem_cons (by rw [signsL_len]; exact hl), ← hx, List.getD_eq_getElem?_getD, List.getElem?_eq_getElem (by rw [signsL_len]; exact hl)]; rfl
      rw [hx] at hc
      have hx3 : x.length ≤ 3 := by
        have : ∀ y ∈ signsL, y.length ≤ 3 := by decide
        refine this x ?_
        rw [← hx, List.getD_eq_getElem?_getD, List.getElem?_eq_getElem (by rw [signsL_len]; exact hl)]
        exact List.getElem_mem _
      obtain ⟨X, hX⟩ : ∃ X : ByteArray, (⟨x.toArray⟩ : ByteArray) = X := ⟨_, rfl⟩
      have hXl : X.data.toList = x := by rw [← hX]
      have hXs : X.size = x.length := by rw [← hXl, len_of]
      obtain ⟨g, hg⟩ : ∃ g, Lib.hasPrefix (s.data.toList.drop a) x = g := ⟨_, rfl⟩
      rw [hX] at hc
      have HP := Lib.hid (show Lib.hasPrefix (s.data.toList.drop a) X.data.toList = g by rw [hXl]; exact hg)
      have hstep : ((signsL.drop k).find? fun x => Lib.hasPrefix (s.data.toList.drop a) x) = if g then some x else (signsL.drop (k + 1)).find? fun x => Lib.hasPrefix (s.data.toList.drop a) x := by
        rw [hdr, List.find?_cons, hg]; cases g <;> rfl
      have HS := Lib.hid hstep
      have HX := Lib.hid hX
      clear hstep hdr hx hg hX hXl
      cases g
      · go_wp2_with fail
        refine (pre_k s X a false HP.out _).mono ?_
        rintro e w' ⟨rfl, rfl⟩
        go_wp2
        go_round
        case rel => exact ⟨k + 1, by omega, rfl, by rw [← H1.out, HS.out]; rfl⟩
        case measure => simp only [intOf]; omega
      · have a2 : IntKind.i64.wrap ((a : Int) + (X.size : Int)) = ((a + x.length : Nat) : Int) := by rw [IntWalk.i64_in _ (by omega)]; omega
        have HO2 := Lib.hid (show O = some (5, x, 0, x.length) by rw [← H1.out, HS.out]; rfl)
        have x0 : W.cell? ⟨w.heap.size, 0, none⟩ = some (.int .i64 0) := by rw [kb.cell]; rfl
        have xf0 := kb.frozen 0
        have x1 : W.cell? ⟨w.heap.size, 1, none⟩ = some (.string ⟨#[]⟩) := by rw [kb.cell]; rfl
        have xf1 := kb.frozen 1
        have x2 : W.cell? ⟨w.heap.size, 2, none⟩ = some (.int .i64 0) := by rw [kb.cell]; rfl
        have xf2 := kb.frozen 2
        have x3 : W.cell? ⟨w.heap.size, 3, none⟩ = some (.int .i64 0) := by rw [kb.cell]; rfl
        have xf3 := kb.frozen 3
        have xl := kb.lt
        go_wp2_with fail
        refine (pre_k s X a true HP.out _).mono ?_
        rintro e w' ⟨rfl, rfl⟩
        go_wp2
        exact bodyPost_ret (v := .tuple #[TokV 5 X 0 0, .int .i64 ((a + x.length : Nat) : Int), .bool true]) (by simp [results, Tryd.results11, go_sem, x0, x1, x2, x3, xl]) rfl ⟨5, X, 0, _, true, rfl, by rw [HO2.out, ← HX.out]; exact ⟨rfl, rfl, rfl⟩, by repeat (first | with_reducible assumption | (refine Below.setCell ?_ (by first | omega | (simp; omega) | simp) _))⟩
    · obtain rfl : k = 36 := by omega
      have HO2 := Lib.hid (show O = none by rw [← H1.out, show signsL.drop 36 = [] from rfl]; rfl)
      have x0 : W.cell? ⟨w.heap.size, 0, none⟩ = some (.int .i64 0) := by rw [kb.cell]; rfl
      have xf0 := kb.frozen 0
      have x1 : W.cell? ⟨w.heap.size, 1, none⟩ = some (.string ⟨#[]⟩) := by rw [kb.cell]; rfl
      have xf1 := kb.frozen 1
      have x2 : W.cell? ⟨w.heap.size, 2, none⟩ = some (.int .i64 0) := by rw [kb.cell]; rfl
      have xf2 := kb.frozen 2
      have x3 : W.cell? ⟨w.heap.size, 3, none⟩ = some (.int .i64 0) := by rw [kb.cell]; rfl
      have xf3 := kb.frozen 3
      have xl := kb.lt
      go_wp2
      exact bodyPost_ret (v := .tuple #[TokV 0 ⟨#[]⟩ 0 0, .int .i64 a, .bool false]) (by simp [results, Tryd.results11, go_sem, x0, x1, x2, x3, xl]) rfl ⟨0, ⟨#[]⟩, 0, a, false, rfl, by rw [HO2.out]; rfl, by repeat (first | with_reducible assumption | (refine Below.setCell ?_ (by first | omega | (simp; omega) | simp) _))⟩

/-- The token at a place. -/
theorem one_any (s : ByteArray) (a : Nat) (m : Int) (w : World) (ha : a < s.size) (hs : s.size ≤ 16384) (h2 : 2 ≤ w.heap.size) (hm : w.cell? ⟨1, 0, none⟩ = some (.int .i64 m)) (tb : Tb w) :
    Calls Tryd.prog 11 #[.string s, .int .i64 a] w (OnePost (oneL (s.data.toList.drop a)) a w) := by
  have hd := drop_at s a ha
  by_cases hL : letterB s[a] = true
  · refine one_name s a _ w ha hs (Lib.hid hL) fun W hW => ?_
    have hz := hW.size
    refine (name_any s a m W (by omega) hs (by omega) (keep_m hW h2 hm)).mono ?_
    rintro e w' ⟨rfl, b⟩
    refine ⟨_, _, _, _, _, rfl, ?_, b⟩
    rw [hd, oneL, if_pos hL, ← hd]
    by_cases h6 : nameN (s.data.toList.drop a) ≤ 60
    · rw [if_pos h6]
      exact ⟨by cases wordB ((s.data.toList.drop a).take (nameN (s.data.toList.drop a))) <;> rfl, rfl, by simpa using h6⟩
    · rw [if_neg h6]
      show decide _ = false
      simpa using h6
  · have hL' : letterB s[a] = false := by simpa using hL
    by_cases hG : digitB s[a] = true
    · refine one_number s a _ w ha hs (Lib.hid hL') (Lib.hid hG) fun W hW => ?_
      refine (number_any s a _ W (by omega) hs (Lib.hid rfl)).mono ?_
      rintro e w' ⟨txt, N, F, ok, rfl, hr, b⟩
      refine ⟨_, _, _, _, _, rfl, ?_, b⟩
      rw [hd, oneL, if_neg hL, if_pos hG, ← hd]
      cases hn : numL 0 (s.data.toList.drop a) with
      | none => rw [hn] at hr; exact hr
      | some x =>
        obtain ⟨N', n⟩ := x
        rw [hn] at hr
        obtain ⟨rfl, rfl, rfl, rfl⟩ := hr
        simp only
        cases hk : numOk (s.data.toList.drop a) n
        · exact rfl
        · exact ⟨by rw [ext_take]; rfl, rfl, rfl⟩
    · have hG' : digitB s[a] = false := by simpa using hG
      by_cases hQ : (s[a] == 34 || s[a] == 39) = true
      · refine one_quoted s a _ w ha hs (Lib.hid hL') (Lib.hid hG') (by simpa using hQ) fun W hW => ?_
        refine (quoted_any s a _ W ha hs (Lib.hid rfl)).mono ?_
        rintro e w' ⟨k, txt, N, F, ok, rfl, hr, b⟩
        refine ⟨_, _, _, _, _, rfl, ?_, b⟩
        rw [hd, oneL, if_neg hL, if_neg hG, if_pos hQ]
        cases hq : quoL s[a] 0 (s.data.toList.drop (a + 1)) [] [] with
        | none => rw [hq] at hr; exact hr
        | some x => rw [hq] at hr; exact hr
      · refine one_sign s a _ w ha hs tb (Lib.hid hL') (Lib.hid hG') (by simpa using hQ) (Lib.hid ?_)
        conv => rhs; rw [hd, oneL, if_neg hL, if_neg hG, if_neg hQ, ← hd]
end Go.Proofs.YtolfcmfilfjgfaaDoor
