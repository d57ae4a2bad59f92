/- The walk of the statement TextPlaces: for every number n the call returns true and changes nothing that was there. -/
import Derived.Test.YtnkddcebhffidaaTxtF
set_option linter.unusedVariables false
namespace Go.Proofs.Ytnkddcebhffidaa
open Go.RowKit

theorem norm_mod (n m : Int) (hm : 0 < m) (h9 : m < 1000000000) : ∃ N : Nat, (wrap64 (n.tmod m + m)).tmod m = (N : Int) ∧ (N : Int) < m := by
  have h1 := Int.tmod_lt_of_pos n hm
  have h2 := Int.lt_tmod_of_pos n hm
  rw [IntWalk.wrap64_in _ (by omega)]
  rw [Int.tmod_eq_emod_of_nonneg (by omega)]
  have h3 := Int.emod_nonneg (n.tmod m + m) (by omega : m ≠ 0)
  have h4 := Int.emod_lt_of_pos (n.tmod m + m) hm
  exact ⟨((n.tmod m + m) % m).toNat, by omega, by omega⟩

/-- Of and Index in a row, of a text of ASCII letters: U is the text's units. -/
def AsciiIdx (l : List UInt8) (U : ByteArray) (r : Int) : Prop := (∀ c, c ∈ l → c.toNat < 128) ∧ l.length ≤ 100 ∧ U = ⟨(unitsB (l.map (·.toNat))).toArray⟩ ∧ idxL (l.map (·.toNat)) = r
theorem AsciiIdx.mk (l : List UInt8) (r : Int) (h1 : ∀ c, c ∈ l → c.toNat < 128) (h2 : l.length ≤ 100) (h3 : idxL (l.map (·.toNat)) = r) : ∃ U, AsciiIdx l U r := ⟨_, h1, h2, rfl, h3⟩
theorem of_s (s : ByteArray) (l : List UInt8) (U : ByteArray) (r : Int) (w : World) (hs : s = ⟨l.toArray⟩) (h : AsciiIdx l U r) :
    Calls Try.prog 11 #[.string s] w fun e w' => e = .returned (.string U) ∧ Below w.heap.size w w' := by
  obtain ⟨h1, h2, h3, h4⟩ := h
  subst hs h3
  exact of_lit l _ w h2 (ofB_ascii l h1)
theorem index_ascii (l : List UInt8) (U : ByteArray) (r : Int) (w : World) (h : AsciiIdx l U r) :
    Calls Try.prog 10 #[.string U] w fun e w' => e = .returned (.int .i64 r) ∧ ∃ n, w' = w.drewN n := by
  obtain ⟨h1, h2, h3, h4⟩ := h
  subst h3
  refine index_lit _ r w (by rw [unitsB_length, List.length_map]; omega) ?_
  refine (indexOf_uS (l.map (·.toNat)) fun u hu => ?_).trans h4
  obtain ⟨c, _, rfl⟩ := List.mem_map.1 hu
  have := UInt8.toNat_lt c
  omega

theorem app_s (a b : List UInt8) : (⟨a.toArray⟩ ++ ⟨b.toArray⟩ : ByteArray) = ⟨(a ++ b).toArray⟩ := by
  rw [ByteArray.ext_iff]; simp

theorem conv_digit (wr : World) (k : Nat) : (convert 23 9 (.slice (some ⟨wr.heap.size, 0, none⟩) 1 1)).run Try.prog (wr.alloc (.cells #[.int .u8 (48 + (k : Int) % 10)] 5)) = .ok (.string ⟨[dg k].toArray⟩) (wr.alloc (.cells #[.int .u8 (48 + (k : Int) % 10)] 5)) := by
  have hc : ∀ i, i < 1 → (wr.alloc (.cells #[.int .u8 (48 + (k : Int) % 10)] 5)).cell? ⟨wr.heap.size, 0 + i, none⟩ = some (.int .u8 ([48 + (k : Int) % 10].getD i 0)) := by
    intro i hi
    obtain rfl : i = 0 := by omega
    rw [Lib.cell_of_heap (heap_alloc_new wr _)]
    rfl
  rw [run_convert_bytes_arg _ 23 5 Try.underlying23 Try.underlying5 wr.heap.size 0 1 1 [48 + (k : Int) % 10] rfl hc 9 Try.underlying9]
  have he : (48 + (k : Int) % 10).toNat = 48 + k % 10 := by omega
  simp only [strOfNums, dg, List.map_cons, List.map_nil, he]

set_option maxHeartbeats 2000000 in
set_option maxRecDepth 100000 in
theorem places_walk (n : Int) (w : World) (wn : (Lit.int .i64 n).wf = true) :
    Calls Try.prog 3 #[.int .i64 n] w fun e w' => e = .returned (.bool true) ∧ Below w.heap.size w w' := by
  obtain ⟨N, hN, hN2⟩ := norm_mod n 12000 (by decide) (by decide)
  have HN := Lib.hid hN
  clear hN
  go_enter Try.func3, Try.ntmps3
  go_wp2_with fail
  refine (fit_any _).mono ?_
  rintro e w1 ⟨rfl, b1⟩
  go_wp2_with fail
  rw [HN.out]
  have s1 := b1.size
  go_loopw [3, 4] (fun d m wr => ∃ (f k : Nat) (l : List UInt8), d = .string ⟨l.toArray⟩ ∧ m = .int .i64 k ∧ decF (f + 1) k l = decB N ∧ k < 10 ^ (f + 1) ∧ f ≤ 4 ∧ l.length + f ≤ 4 ∧ Below w.heap.size w wr) (fun _ m _ => (intOf m).toNat)
  case atStart => exact ⟨4, N, [], rfl, rfl, rfl, by omega, by omega, by simp, b1⟩
  case round =>
    obtain ⟨f, k, l, rfl, rfl, hd, hk, hf, hl, hb⟩ := hrel
    have hkb : k < 100000 := Nat.lt_of_lt_of_le hk (Nat.pow_le_pow_right (n := 10) (by decide) (show f + 1 ≤ 5 by omega))
    have Hd := Lib.hid hd
    have Hk := Lib.hid hk
    clear hd hk
    have hcv := conv_digit wr k
    by_cases h0 : k / 10 = 0
    · have t0 : ((k : Int) / 10 == 0) = true := by rw [beq_iff_eq]; omega
      have hl : dg k :: l = decB N := by rw [← Hd.out, decF, if_pos h0]; rfl
      have e0 : (⟨#[dg k]⟩ ++ ⟨l.toArray⟩ : ByteArray) = ⟨(decB N).toArray⟩ := by rw [← hl]; exact app_s [dg k] l
      have hdl : (decB N).length ≤ 5 := by rw [← hl, List.length_cons]; omega
      have hN3 : N < 12000 := by omega
      obtain ⟨U1, i1⟩ := AsciiIdx.mk (48 :: decB N) (-1) (fun c hc => by rcases List.mem_cons.1 hc with rfl | hc; decide; exact decB_ascii N hN3 c hc) (by rw [List.length_cons]; omega) (idxL_head 48 _ (by simpa using decB_ne N hN3) (by decide))
      obtain ⟨U2, i2⟩ := AsciiIdx.mk (decB N) (if 1000 ≤ N then -1 else (N : Int)) (decB_ascii N hN3) (by omega) (idxL_dec N hN3)
      obtain ⟨U3, i3⟩ := AsciiIdx.mk (decB N ++ [120]) (-1) (fun c hc => by rcases List.mem_append.1 hc with hc | hc; exact decB_ascii N hN3 c hc; obtain rfl := List.mem_singleton.1 hc; decide) (by rw [List.length_append]; simp; omega) (by rw [List.map_append]; exact idxL_last 120 _ (by decide))
      obtain ⟨U4, i4⟩ := AsciiIdx.mk (45 :: decB N) (-1) (fun c hc => by rcases List.mem_cons.1 hc with rfl | hc; decide; exact decB_ascii N hN3 c hc) (by rw [List.length_cons]; omega) (idxL_head 45 _ (by simpa using decB_ne N hN3) (by decide))
      obtain ⟨U5, i5⟩ := AsciiIdx.mk (32 :: decB N) (-1) (fun c hc => by rcases List.mem_cons.1 hc with rfl | hc; decide; exact decB_ascii N hN3 c hc) (by rw [List.length_cons]; omega) (idxL_head 32 _ (by simpa using decB_ne N hN3) (by decide))
      have E0 := Lib.hid e0
      have I1 := Lib.hid i1
      have I2 := Lib.hid i2
      have I3 := Lib.hid i3
      have I4 := Lib.hid i4
      have I5 := Lib.hid i5
      clear hl e0 h0 i1 i2 i3 i4 i5
      obtain ⟨W, hW⟩ : ∃ W, (if 1000 ≤ N then -1 else (N : Int)) = W := ⟨_, rfl⟩
      have HW := Lib.hid hW
      rw [HW.out] at I2
      have hz := hb.size
      by_cases hN1 : 1000 ≤ N
      case' pos =>
        have t1 : decide (1000 ≤ (N : Int)) = true := by simp; omega
        have tW : W = -1 := by rw [← hW, if_pos hN1]
        have tW2 : ((-1 : Int) == -1) = true := rfl
        rw [tW] at I2
        clear hW hN1 tW HW
        go_wp2_with fail
      case' neg =>
        have t1 : decide (1000 ≤ (N : Int)) = false := by simp; omega
        have tW : W = N := by rw [← hW, if_neg hN1]
        have tW2 : ((N : Int) == N) = true := by simp
        rw [tW] at I2
        clear hW hN1 tW HW
        go_wp2_with fail
      all_goals
        rw [E0.out]
        have b2 := hb.alloc hz (.cells #[.int .u8 (48 + (k : Int) % 10)] 5)
        clear hcv t0
        clear hkb hf hl
        refine (of_s _ (48 :: decB N) _ (-1) _ (app_s [48] (decB N)) I1.out).mono ?_
        rintro e w2 ⟨rfl, b3⟩
        have b4 := b2.trans (b3.mono b2.size)
        clear b3 b2 hb
        go_wp2_with fail
        refine (index_ascii (48 :: decB N) _ (-1) _ I1.out).mono ?_
        rintro e w3 ⟨rfl, n3, rfl⟩
        go_wp2_with fail
        refine (of_s _ (decB N) _ _ _ rfl I2.out).mono ?_
        rintro e w4 ⟨rfl, c4⟩
        have b4y := (below_drewN b4 n3).trans (c4.mono b4.size)
        clear c4 b4
        go_wp2_with fail
        refine (index_ascii (decB N) _ _ _ I2.out).mono ?_
        rintro e w5 ⟨rfl, n5, rfl⟩
        go_wp2_with fail
        refine (of_s _ (decB N ++ [120]) _ (-1) _ (app_s (decB N) [120]) I3.out).mono ?_
        rintro e w6 ⟨rfl, c6⟩
        have b6 := (below_drewN b4y n5).trans (c6.mono b4y.size)
        clear c6 b4y
        go_wp2_with fail
        refine (index_ascii (decB N ++ [120]) _ (-1) _ I3.out).mono ?_
        rintro e w7 ⟨rfl, n7, rfl⟩
        go_wp2_with fail
        refine (of_s _ (45 :: decB N) _ (-1) _ (app_s [45] (decB N)) I4.out).mono ?_
        rintro e w8 ⟨rfl, c8⟩
        have b8 := (below_drewN b6 n7).trans (c8.mono b6.size)
        clear c8 b6
        go_wp2_with fail
        refine (index_ascii (45 :: decB N) _ (-1) _ I4.out).mono ?_
        rintro e w9 ⟨rfl, n9, rfl⟩
        go_wp2_with fail
        refine (of_s _ (32 :: decB N) _ (-1) _ (app_s [32] (decB N)) I5.out).mono ?_
        rintro e w10 ⟨rfl, c10⟩
        have b10 := (below_drewN b8 n9).trans (c10.mono b8.size)
        clear c10 b8
        go_wp2_with fail
        refine (index_ascii (32 :: decB N) _ (-1) _ I5.out).mono ?_
        rintro e w11 ⟨rfl, n11, rfl⟩
        go_wp2
        go_ret
        exact ⟨rfl, below_drewN b10 n11⟩
    · have t0 : ((k : Int) / 10 == 0) = false := by rw [beq_eq_false_iff_ne]; omega
      have hf0 : f ≠ 0 := by
        rintro rfl
        have := Hk.out
        omega
      obtain ⟨f', rfl⟩ : ∃ f', f = f' + 1 := ⟨f - 1, by omega⟩
      have hz := hb.size
      go_wp2
      go_roundw
      case rel =>
        refine ⟨f', k / 10, dg k :: l, ?_, by go_num, ?_, ?_, by omega, by rw [List.length_cons]; omega, hb.alloc hz _⟩
        · exact congrArg Value.string (app_s [dg k] l)
        · have hd := Hd.out; rw [decF, if_neg h0] at hd; exact hd
        · have := Hk.out; rw [Nat.pow_succ] at this; omega
      case measure => simp [intOf]; omega
end Go.Proofs.Ytnkddcebhffidaa
