/- Show: object of any array, of another class; show of a symbol. -/
import Derived.Test.YtdeboajjhpecbaaGreatDoorShJ
import Derived.Test.YtdeboajjhpecbaaGreatDoorShZa
import Derived.Test.YtdeboajjhpecbaaGreatDoorBldR
import Derived.Test.YtdeboajjhpecbaaGreatDoorShelf
import Derived.Test.YtdeboajjhpecbaaGreatDoorShelfF
import Derived.Deep.CutBlock
set_option linter.unusedVariables false
set_option linter.unusedSimpArgs false
namespace Go.Proofs.YtdeboajjhpecbaaGreatDoor.Hp
open Go.RowKit Go.Proofs.YtdeboajjhpecbaaGreatDoor Go.Shelf
/-- An array, not too deep: its parts, with commas between. -/
theorem object_arrayA {w : World} {m H b T : Nat} {n0 : Int} {s0 : ByteArray} {pr at_ : Int} {clo : Bool} {tb wk fa : Value} {deep : Int} {L : List K3} {ss : List (List UInt8)} {cap : Nat} {a : Option Addr} (hd : decide (deep > 2) = false) (hd0 : 0 ≤ deep)
    (x0 : w.cell? ⟨m, 0, none⟩ = some (.pointer (some ⟨H, 0, none⟩))) (hB : Blk w b 85 (objA 1 pr clo T (.slice a L.length cap) tb wk fa at_))
    (hOf : ∀ W, Below w.heap.size w W → Calls Tryz.prog 46 #[.pointer (some ⟨H, 0, none⟩), VS 9 n0 s0] W fun e W' => e = .returned (.pointer (some ⟨b, 0, none⟩)) ∧ Below W.heap.size W W')
    (hE : ∀ (i : Nat) k, L[i]? = some k → ∃ g, a = some ⟨g, 0, none⟩ ∧ w.cell? ⟨g, i * 3, none⟩ = some (.int .i64 k.1) ∧ w.cell? ⟨g, i * 3 + 1, none⟩ = some (.int .i64 k.2.1) ∧ w.cell? ⟨g, i * 3 + 2, none⟩ = some (.string k.2.2))
    (hl : ss.length = L.length) (hn : L.length ≤ 1000) (hsz : (jn ss).length ≤ 16000)
    (hS : ∀ (i : Nat) k, L[i]? = some k → ∀ W, Below w.heap.size w W → Calls Tryz.prog 20 #[.pointer (some ⟨m, 0, none⟩), VS k.1 k.2.1 k.2.2, .int .i64 (deep + 1)] W (ShwP ⟨(ss.getD i []).toArray⟩ W)) :
    Calls Tryz.prog 31 #[.pointer (some ⟨m, 0, none⟩), VS 9 n0 s0, .int .i64 deep] w (ShwP ⟨(91 :: (jn ss ++ [93])).toArray⟩ w) := by
  have HE := Lib.hid hE
  have HL := Lib.hid (And.intro hl (And.intro hn hsz))
  have HW := Lib.hid hS
  clear hE hl hn hsz hS
  have b0 : Below w.heap.size w (w.alloc (.cells #[.int .i64 9, .int .i64 n0, .string s0] 30)) := (Below.refl _ _).alloc (Nat.le_refl _) _
  have HO := Lib.hid hOf
  have HB := Lib.hid b0
  have HV := Lib.hid hB
  have bx := Blk.new w 30 #[.int .i64 9, .int .i64 n0, .string s0]
  have HS : Hid ((w.alloc (.cells #[.int .i64 9, .int .i64 n0, .string s0] 30)).cell? ⟨m, 0, none⟩ = some (.pointer (some ⟨H, 0, none⟩)) ∧ (w.alloc (.cells #[.int .i64 9, .int .i64 n0, .string s0] 30)).cell? ⟨w.heap.size, 0, none⟩ = some (.int .i64 9) ∧ (w.alloc (.cells #[.int .i64 9, .int .i64 n0, .string s0] 30)).cell? ⟨w.heap.size, 1, none⟩ = some (.int .i64 n0) ∧ (w.alloc (.cells #[.int .i64 9, .int .i64 n0, .string s0] 30)).cell? ⟨w.heap.size, 2, none⟩ = some (.string s0)) := Lib.hid ⟨(b0.cell (World.block_lt_of_cell? w _ x0)).trans x0, by rw [bx.cell]; rfl, by rw [bx.cell]; rfl, by rw [bx.cell]; rfl⟩
  clear hOf b0 hB x0 bx
  go_enter Tryz.func31, Tryz.ntmps31
  go_wp2_with (fail)
  generalize w.alloc (.cells #[.int .i64 9, .int .i64 n0, .string s0] 30) = W1 at *
  refine wp_var0 (fun KV HKV => ?_)
  refine wp_region_till (m := 5) (S := (fun W => W.cell? ⟨m, 0, none⟩ = some (.pointer (some ⟨H, 0, none⟩)) ∧ W.cell? ⟨w.heap.size, 0, none⟩ = some (.int .i64 9) ∧ W.cell? ⟨w.heap.size, 1, none⟩ = some (.int .i64 n0) ∧ W.cell? ⟨w.heap.size, 2, none⟩ = some (.string s0))) (by kernel_rfl) ?_
  have e4 : W1.drew = W1.drewN 1 := rfl
  rw [e4]
  have S0 : (W1.drewN 1).cell? ⟨m, 0, none⟩ = some (.pointer (some ⟨H, 0, none⟩)) ∧ (W1.drewN 1).cell? ⟨w.heap.size, 0, none⟩ = some (.int .i64 9) ∧ (W1.drewN 1).cell? ⟨w.heap.size, 1, none⟩ = some (.int .i64 n0) ∧ (W1.drewN 1).cell? ⟨w.heap.size, 2, none⟩ = some (.string s0) := HS.out
  have HBD := Lib.hid (below_drw HB.out 1)
  clear e4 HS HB
  generalize W1.drewN 1 = E1 at *
  change tillH _ _ _ _ _ _ 7 #[false, false, false, false, false, false, false] _ _
  refine tillH_takeAny (i := 0) (oi := ?ooa7) (v := ?vva7) ?hia7 (by kernel_rfl) (by kernel_rfl) (by kernel_rfl) ?hqa7 (by kernel_rfl) ?hya7 (fun _ => S0) ?hha7
  case hia7 => (simp only [List.getElem?_toArray, List.getElem?_cons_succ, List.getElem?_cons_zero]; rfl)
  case hqa7 => exact fun _ _ _ h => h
  case hya7 => exact Or.inl ⟨by rfl, by (intro W; go_simp; (try with_reducible rfl))⟩
  (try simp only [Act.put, List.setIfInBounds_toArray, List.set_cons_zero, List.set_cons_succ])
  refine tillH_takeAny (i := 1) (oi := ?ooa8) (v := ?vva8) ?hia8 (by kernel_rfl) (by kernel_rfl) (by kernel_rfl) ?hqa8 (by kernel_rfl) ?hya8 (fun _ => S0) ?hha8
  case hia8 => (simp only [List.getElem?_toArray, List.getElem?_cons_succ, List.getElem?_cons_zero]; rfl)
  case hqa8 => exact fun _ _ _ h => h
  case hya8 => exact Or.inl ⟨by rfl, by (intro W; go_simp; (try with_reducible rfl))⟩
  (try simp only [Act.put, List.setIfInBounds_toArray, List.set_cons_zero, List.set_cons_succ])
  refine tillH_takeAny (i := 2) (oi := ?ooa9) (v := ?vva9) ?hia9 (by kernel_rfl) (by kernel_rfl) (by kernel_rfl) ?hqa9 (by kernel_rfl) ?hya9 (fun _ => S0) ?hha9
  case hia9 => (simp only [List.getElem?_toArray, List.getElem?_cons_succ, List.getElem?_cons_zero]; rfl)
  case hqa9 => exact fun _ _ _ h => h
  case hya9 => exact Or.inl ⟨by rfl, by (intro W; go_simp; (try with_reducible rfl))⟩
  (try simp only [Act.put, List.setIfInBounds_toArray, List.set_cons_zero, List.set_cons_succ])
  refine tillH_take (i := 3) (oi := ?ooa10) (v := ?vva10) ?hia10 (by kernel_rfl) (by kernel_rfl) (by kernel_rfl) ?hqa10 (by kernel_rfl) (by kernel_rfl) (by kernel_rfl) ?hya10 S0 ?hha10
  case hia10 => (simp only [List.getElem?_toArray, List.getElem?_cons_succ, List.getElem?_cons_zero]; rfl)
  case hqa10 => exact fun _ _ _ h => h
  case hya10 => exact Or.inl ⟨by rfl, by (intro W hSw; (try obtain ⟨s0, s1, s2, s3⟩ := hSw); go_simp; (try with_reducible rfl))⟩
  (try simp only [Act.put, List.setIfInBounds_toArray, List.set_cons_zero, List.set_cons_succ])
  refine tillH_take (i := 4) (oi := ?ooa11) (v := ?vva11) ?hia11 (by kernel_rfl) (by kernel_rfl) (by kernel_rfl) ?hqa11 (by kernel_rfl) (by kernel_rfl) (by kernel_rfl) ?hya11 S0 ?hha11
  case hia11 => (simp only [List.getElem?_toArray, List.getElem?_cons_succ, List.getElem?_cons_zero]; rfl)
  case hqa11 => exact fun _ _ _ h => h
  case hya11 => exact Or.inl ⟨by rfl, by (intro W hSw; (try obtain ⟨s0, s1, s2, s3⟩ := hSw); go_simp; (try with_reducible rfl))⟩
  (try simp only [Act.put, List.setIfInBounds_toArray, List.set_cons_zero, List.set_cons_succ])
  refine tillH_next (rs := [5]) (by kernel_rfl) (by simp) ?_
  refine NextH.cons rfl (fun K hK => ?_) NextH.nil
  go_simp
  refine (HO.out _ HBD.out).mono ?_
  rintro e E2 ⟨rfl, b6⟩
  have HB2 := Lib.hid (HBD.out.trans (b6.mono HBD.out.size))
  clear b6 HBD HO
  refine hK.out _ _ (fun h => absurd h (by simp)) ?_
  clear hK K
  (try simp only [Act.put, List.setIfInBounds_toArray, List.set_cons_zero, List.set_cons_succ])
  refine tillH_takeAny (i := 6) (oi := ?ooa12) (v := ?vva12) ?hia12 (by kernel_rfl) (by kernel_rfl) (by kernel_rfl) ?hqa12 (by kernel_rfl) ?hya12 (fun h => absurd h (by simp)) ?hha12
  case hia12 => (simp only [List.getElem?_toArray, List.getElem?_cons_succ, List.getElem?_cons_zero]; rfl)
  case hqa12 => exact fun _ _ _ h => h
  case hya12 => exact Or.inl ⟨by rfl, by (intro W; go_simp; (try with_reducible rfl))⟩
  (try simp only [Act.put, List.setIfInBounds_toArray, List.set_cons_zero, List.set_cons_succ])
  refine tillH_done (by kernel_rfl) ?_ _
  refine HKV.out _ _ ?_
  have HX := Lib.hid (HV.out.below HB2.out HV.out.lt)
  have c0 : E2.cell? ⟨b, 0, none⟩ = some (.int .i64 1) := by rw [HX.out.cell]; rfl
  have HF := Lib.hid (show Lib.IsBuilderF 109 5 E2.heap.size E2.heap.size [] (E2.alloc (.cells #[.pointer none, .slice none 0 0] 109)) from Lib.IsBuilderF.of (Lib.fresh_isBuilder 109 5 E2))
  have hz : E2.heap.size ≤ (E2.alloc (.cells #[.pointer none, .slice none 0 0] 109)).heap.size := by simp
  have ba := HB2.out.alloc HB2.out.size (.cells #[.pointer none, .slice none 0 0] 109)
  have hD := HB2.out.size
  go_wp2_with (fail)
  refine (Tx.WriteString_k E2.heap.size E2.heap.size [] ⟨#[91]⟩ _ HF.out (by decide) hz).mono ?_
  rintro e E3 ⟨rfl, hb, bb, -⟩
  have HG := Lib.hid (And.intro (show Lib.IsBuilderF 109 5 E2.heap.size E2.heap.size (Lib.byteCells [91]) E3 from Or.inr hb) (ba.trans (bb.mono hD)))
  have HX3 := Lib.hid (HV.out.below HG.out.2 HV.out.lt)
  clear HF hz ba hb bb HX c0 HB2 S0
  generalize E2.heap.size = D at *
  have c4 : E3.cell? ⟨b, 4, none⟩ = some (.slice a L.length cap) := by rw [HX3.out.cell]; rfl
  go_wp2_with (fail)
  go_loopw [42] (fun v wr => ∃ i : Nat, v = .int .i64 (i : Int) ∧ i ≤ L.length ∧ Hid (Lib.IsBuilderF 109 5 D D (Lib.byteCells (91 :: jn (ss.take i))) wr ∧ Below w.heap.size w wr)) (fun v _ => L.length - (intOf v).toNat)
  case atStart => exact ⟨0, rfl, Nat.zero_le _, HG⟩
  case round =>
    obtain ⟨i, rfl, hi0, HI⟩ := hrel
    by_cases hi : i < L.length
    · have hlt0 := hi
      obtain ⟨k, hk⟩ : ∃ k, L[i]? = some k := ⟨_, List.getElem?_eq_getElem hi⟩
      obtain ⟨k1, k2, k3⟩ := k
      obtain ⟨g, rfl, f0⟩ := HE.out i _ hk
      have q0 : wr.cell? ⟨g, i * 3, none⟩ = some (.int .i64 k1) := (HI.out.2.cell (World.block_lt_of_cell? w _ f0.1)).trans f0.1
      have q1 : wr.cell? ⟨g, i * 3 + 1, none⟩ = some (.int .i64 k2) := (HI.out.2.cell (World.block_lt_of_cell? w _ f0.2.1)).trans f0.2.1
      have q2 : wr.cell? ⟨g, i * 3 + 2, none⟩ = some (.string k3) := (HI.out.2.cell (World.block_lt_of_cell? w _ f0.2.2)).trans f0.2.2
      have t3 : decide ((i : Int) < (L.length : Int)) = true := by simp; omega
      have z0 : (0 : Int) ≤ (i : Int) := by omega
      have z1 : (i : Int) < (L.length : Int) := by omega
      have ac : IntKind.i64.wrap ((i : Int) + 1) = (i : Int) + 1 := IntWalk.i64_in _ (by have := HL.out; omega)
      have ad : IntKind.i64.wrap (deep + 1) = deep + 1 := IntWalk.i64_in _ (by have := of_decide_eq_false hd; omega)
      have HW2 := Lib.hid (HW.out i _ hk)
      have hle := jn_len ss i
      have htk := jn_take ss i (by have := HL.out.1; omega)
      have HT := Lib.hid (And.intro htk (And.intro hle (And.intro (jn_len ss (i + 1)) HL.out)))
      have HN : Hid ((ss.getD i []).length ≤ 16000) := Lib.hid (by have h7 := HT.out; have h8 := congrArg List.length h7.1; simp only [List.length_append] at h8; omega)
      obtain ⟨n1, hn1⟩ : ∃ n1, (Lib.byteCells (91 :: jn (ss.take i))).length = n1 := ⟨_, rfl⟩
      have hn2 : n1 ≤ 16001 := by rw [← hn1]; have := HL.out.2.2; simp [Lib.byteCells]; omega
      have t5 : decide ((n1 : Int) > 16384) = false := by simp; omega
      have hbx := HI.out.2.alloc HI.out.2.size (.cells #[.int .i64 k1, .int .i64 k2, .string k3] 30)
      have hb2 := (Below.refl wr.heap.size wr).alloc (Nat.le_refl _) (.cells #[.int .i64 k1, .int .i64 k2, .string k3] 30)
      have hDl : D < wr.heap.size := by rcases HI.out.1 with h | h <;> exact h.lt
      have HJ := Lib.hid (And.intro (bIs_below HI.out.1 hb2) (And.intro hbx (And.intro (Blk.new wr 30 #[.int .i64 k1, .int .i64 k2, .string k3]) hDl)))
      clear f0 hle htk hbx hb2 hDl hk HI HG c4 HX3 hi
      go_wp2_with (fail)
      clear q0 q1 q2
      generalize wr.alloc (.cells #[.int .i64 k1, .int .i64 k2, .string k3] 30) = w3 at *
      generalize wr.heap.size = X at *
      refine (Tryz.Builder_Len_f D D _ w3 HJ.out.1).mono ?_
      rintro e w3' ⟨rfl, rfl⟩
      rw [hn1]
      by_cases h0 : 0 < i
      · have t6 : decide ((i : Int) > 0) = true := by simp; omega
        have HT0 := Lib.hid h0
        clear h0
        go_wp2_with (fail)
        refine (Tx.WriteString_k D D _ ⟨#[44, 32]⟩ _ HJ.out.1 (by rw [hn1]; show n1 + 2 ≤ _; omega) (by rcases HJ.out.1 with h | h <;> exact Nat.le_of_lt h.lt)).mono ?_
        rintro e w4 ⟨rfl, hb4, b4, o4⟩
        have HK := Lib.hid (And.intro (show Lib.IsBuilderF 109 5 D D (Lib.byteCells (91 :: jn (ss.take i)) ++ Lib.strCells ⟨#[44, 32]⟩) w4 from Or.inr hb4) (And.intro (HJ.out.2.1.trans (b4.mono hD)) (And.intro (show Blk w4 X 30 #[.int .i64 k1, .int .i64 k2, .string k3] from o4 X _ HJ.out.2.2.1 (fun e => by have := HJ.out.2.2.2; cases e; omega) (fun c fz e => by cases e)) HJ.out.2.2.2)))
        clear hb4 b4 o4 HJ
        have y0 : w4.cell? ⟨X, 0, none⟩ = some (.int .i64 k1) := by rw [HK.out.2.2.1.cell]; rfl
        have y1 : w4.cell? ⟨X, 1, none⟩ = some (.int .i64 k2) := by rw [HK.out.2.2.1.cell]; rfl
        have y2 : w4.cell? ⟨X, 2, none⟩ = some (.string k3) := by rw [HK.out.2.2.1.cell]; rfl
        go_wp2_with (fail)
        refine (HW2.out w4 HK.out.2.1).mono ?_
        rintro e w5 ⟨rfl, b5⟩
        have HL5 := Lib.hid (And.intro (bIs_below HK.out.1 b5) (And.intro (HK.out.2.1.trans (b5.mono HK.out.2.1.size)) b5.size))
        clear y0 y1 y2 b5
        go_wp2_with (fail)
        refine (Tx.WriteString_k D D _ ⟨(ss.getD i []).toArray⟩ w5 HL5.out.1 (by have h9 := HN.out; rw [List.length_append, hn1]; show n1 + 2 + (ss.getD i []).toArray.size ≤ _; rw [List.size_toArray]; omega) (by rcases HL5.out.1 with h | h <;> exact Nat.le_of_lt h.lt)).mono ?_
        rintro e w6 ⟨rfl, hb6, b6, -⟩
        have HM : Hid (Lib.IsBuilderF 109 5 D D (Lib.byteCells (91 :: jn (ss.take (i + 1)))) w6 ∧ Below w.heap.size w w6) := by
          refine Lib.hid ⟨?_, HL5.out.2.1.trans (b6.mono hD)⟩
          rw [HT.out.1]
          refine Or.inr ?_
          simpa [Lib.byteCells, Lib.strCells, HT0.out] using hb6
        clear hb6 b6
        go_wp2_with (fail)
        go_roundw
        case rel => exact ⟨i + 1, rfl, by omega, HM⟩
        case measure => simp [intOf]; omega
      · have t6 : decide ((i : Int) > 0) = false := by simp; omega
        have HK := HJ
        have HT0 := Lib.hid h0
        clear h0 HJ
        have y0 : w3'.cell? ⟨X, 0, none⟩ = some (.int .i64 k1) := by rw [HK.out.2.2.1.cell]; rfl
        have y1 : w3'.cell? ⟨X, 1, none⟩ = some (.int .i64 k2) := by rw [HK.out.2.2.1.cell]; rfl
        have y2 : w3'.cell? ⟨X, 2, none⟩ = some (.string k3) := by rw [HK.out.2.2.1.cell]; rfl
        go_wp2_with (fail)
        refine (HW2.out w3' HK.out.2.1).mono ?_
        rintro e w5 ⟨rfl, b5⟩
        have HL5 := Lib.hid (And.intro (bIs_below HK.out.1 b5) (And.intro (HK.out.2.1.trans (b5.mono HK.out.2.1.size)) b5.size))
        clear y0 y1 y2 b5
        go_wp2_with (fail)
        refine (Tx.WriteString_k D D _ ⟨(ss.getD i []).toArray⟩ w5 HL5.out.1 (by have h9 := HN.out; rw [hn1]; show n1 + (ss.getD i []).toArray.size ≤ _; rw [List.size_toArray]; omega) (by rcases HL5.out.1 with h | h <;> exact Nat.le_of_lt h.lt)).mono ?_
        rintro e w6 ⟨rfl, hb6, b6, -⟩
        have HM : Hid (Lib.IsBuilderF 109 5 D D (Lib.byteCells (91 :: jn (ss.take (i + 1)))) w6 ∧ Below w.heap.size w w6) := by
          refine Lib.hid ⟨?_, HL5.out.2.1.trans (b6.mono hD)⟩
          rw [HT.out.1]
          refine Or.inr ?_
          simpa [Lib.byteCells, Lib.strCells, HT0.out] using hb6
        clear hb6 b6
        go_wp2_with (fail)
        go_roundw
        case rel => exact ⟨i + 1, rfl, by omega, HM⟩
        case measure => simp [intOf]; omega
    · have hin : i = L.length := by omega
      have t3 : decide ((i : Int) < (L.length : Int)) = false := by simp; omega
      have hx : ss.take i = ss := List.take_of_length_le (by have := HL.out.1; omega)
      rw [hx] at HI
      go_wp2_with (fail)
      refine (Tryz.Builder_String_any_k D D (91 :: jn ss) wr HI.out.1 (by have := HI.out.1; rcases this with h | h <;> exact Nat.le_of_lt h.lt)).mono ?_
      rintro e w5 ⟨rfl, -, b5, -⟩
      have HB5 := Lib.hid (HI.out.2.trans (b5.mono hD))
      clear b5
      have t7 : ¬ 9223372036854775807 < (jn ss).length + 1 + 1 := by have := HL.out.2.2; omega
      go_wp2_with (fail)
      go_ret
      exact ⟨congrArg (fun b => Ending.returned (.string b)) (ByteArray.ext (by first | rfl | (apply Array.ext'; simp [ByteArray.data_append]))), HB5.out⟩
/-- strings.Fields' table reads as it was laid. -/
def Fb (w : World) : Prop := Lib.TabIs Tryz.prog w "strings.asciiSpace" .u8 Lib.asciiSpaceTab
theorem Fb.below {w W : World} (h : Fb w) (b : Below w.heap.size w W) : Fb W := Lib.tabBelow_of_tabIs h W b
def clsText : ByteArray := ⟨#[79, 98, 106, 101, 99, 116, 32, 65, 114, 114, 97, 121, 32, 70, 117, 110, 99, 116, 105, 111, 110, 32, 77, 97, 112, 32, 83, 101, 116, 32, 73, 116, 101, 114, 97, 116, 111, 114, 32, 87, 101, 97, 107, 77, 97, 112, 32, 87, 101, 97, 107, 83, 101, 116, 32, 87, 101, 97, 107, 82, 101, 102, 32, 70, 105, 110, 97, 108, 105, 122, 97, 116, 105, 111, 110, 82, 101, 103, 105, 115, 116, 114, 121, 32, 71, 101, 110, 101, 114, 97, 116, 111, 114, 32, 80, 114, 111, 109, 105, 115, 101, 32, 69, 114, 114, 111, 114]⟩
theorem fields_cls : Lib.fields clsText.data.toList = cnL := by decide +kernel
theorem ascii_cls : ∀ (j : Nat) b, clsText.data.toList[j]? = some b → b.toNat < 128 := by
  intro j b h
  have hm := List.mem_of_getElem? h
  have : clsText.data.toList.all (fun b => b.toNat < 128) = true := by decide +kernel
  simpa using List.all_eq_true.1 this b hm
def clsV : Array Value := (cnL.map fun l => Value.string ⟨l.toArray⟩).toArray
theorem clsV_at (c : Nat) (h : c < 13) : clsV[c]? = some (.string ⟨(cnB c).toArray⟩) := by
  unfold clsV cnB
  rw [List.getElem?_toArray, List.getElem?_map]
  have hl : c < cnL.length := by simpa [cnL] using h
  rw [List.getElem?_eq_getElem hl, List.getD_eq_getElem?_getD, List.getElem?_eq_getElem hl]
  rfl
theorem fields_any (w : World) (h : Fb w) :
    Calls Tryz.prog 50 #[.string clsText] w fun e w' => e = .returned (.slice (some ⟨w.heap.size, 0, none⟩) 13 13) ∧ w' = w.alloc (.cells clsV 9) := by
  have := Tryz.strings_Fields clsText w (by decide) ascii_cls h
  rw [fields_cls] at this
  exact this
set_option maxRecDepth 100000 in
set_option maxHeartbeats 8000000 in
/-- An object of another class. -/
theorem object_cls {w : World} {m H b T : Nat} {n0 : Int} {s0 : ByteArray} {pr at_ : Int} {clo : Bool} {ev tb wk fa : Value} {deep : Int} {C : Int} {c : Nat} (hC : (c : Int) = C) (hc13 : c < 13) (h1 : (C == 1) = false) (h2 : (C == 2) = false) (h12 : (C == 12) = false)
    (x0 : w.cell? ⟨m, 0, none⟩ = some (.pointer (some ⟨H, 0, none⟩))) (hB : Blk w b 85 (objA C pr clo T ev tb wk fa at_)) (hF : ∀ W, Below w.heap.size w W → Fb W)
    (hOf : ∀ W, Below w.heap.size w W → Calls Tryz.prog 46 #[.pointer (some ⟨H, 0, none⟩), VS 9 n0 s0] W fun e W' => e = .returned (.pointer (some ⟨b, 0, none⟩)) ∧ Below W.heap.size W W') :
    Calls Tryz.prog 31 #[.pointer (some ⟨m, 0, none⟩), VS 9 n0 s0, .int .i64 deep] w (ShwP ⟨(91 :: (cnB c ++ [93])).toArray⟩ w) := by
  have HF := Lib.hid hF
  have HCC := Lib.hid (And.intro hC hc13)
  have z0 : (0 : Int) ≤ C := by omega
  have z1 : C < 13 := by omega
  have z2 : C.toNat = c := by omega
  obtain ⟨nm, hnm⟩ : ∃ x, cnB c = x := ⟨_, rfl⟩
  have hnl := cnB_len c
  rw [hnm] at hnl ⊢
  have HNM := Lib.hid hnm
  clear hF hC hc13 hnm
  have b0 : Below w.heap.size w (w.alloc (.cells #[.int .i64 9, .int .i64 n0, .string s0] 30)) := (Below.refl _ _).alloc (Nat.le_refl _) _
  have HO := Lib.hid hOf
  have HB := Lib.hid b0
  have HV := Lib.hid hB
  have bx := Blk.new w 30 #[.int .i64 9, .int .i64 n0, .string s0]
  have HS : Hid ((w.alloc (.cells #[.int .i64 9, .int .i64 n0, .string s0] 30)).cell? ⟨m, 0, none⟩ = some (.pointer (some ⟨H, 0, none⟩)) ∧ (w.alloc (.cells #[.int .i64 9, .int .i64 n0, .string s0] 30)).cell? ⟨w.heap.size, 0, none⟩ = some (.int .i64 9) ∧ (w.alloc (.cells #[.int .i64 9, .int .i64 n0, .string s0] 30)).cell? ⟨w.heap.size, 1, none⟩ = some (.int .i64 n0) ∧ (w.alloc (.cells #[.int .i64 9, .int .i64 n0, .string s0] 30)).cell? ⟨w.heap.size, 2, none⟩ = some (.string s0)) := Lib.hid ⟨(b0.cell (World.block_lt_of_cell? w _ x0)).trans x0, by rw [bx.cell]; rfl, by rw [bx.cell]; rfl, by rw [bx.cell]; rfl⟩
  clear hOf b0 hB x0 bx
  go_enter Tryz.func31, Tryz.ntmps31
  go_wp2_with (fail)
  generalize w.alloc (.cells #[.int .i64 9, .int .i64 n0, .string s0] 30) = W1 at *
  refine wp_var0 (fun KV HKV => ?_)
  refine wp_region_till (m := 5) (S := (fun W => W.cell? ⟨m, 0, none⟩ = some (.pointer (some ⟨H, 0, none⟩)) ∧ W.cell? ⟨w.heap.size, 0, none⟩ = some (.int .i64 9) ∧ W.cell? ⟨w.heap.size, 1, none⟩ = some (.int .i64 n0) ∧ W.cell? ⟨w.heap.size, 2, none⟩ = some (.string s0))) (by kernel_rfl) ?_
  have e4 : W1.drew = W1.drewN 1 := rfl
  rw [e4]
  have S0 : (W1.drewN 1).cell? ⟨m, 0, none⟩ = some (.pointer (some ⟨H, 0, none⟩)) ∧ (W1.drewN 1).cell? ⟨w.heap.size, 0, none⟩ = some (.int .i64 9) ∧ (W1.drewN 1).cell? ⟨w.heap.size, 1, none⟩ = some (.int .i64 n0) ∧ (W1.drewN 1).cell? ⟨w.heap.size, 2, none⟩ = some (.string s0) := HS.out
  have HBD := Lib.hid (below_drw HB.out 1)
  clear e4 HS HB
  generalize W1.drewN 1 = E1 at *
  change tillH _ _ _ _ _ _ 7 #[false, false, false, false, false, false, false] _ _
  refine tillH_takeAny (i := 0) (oi := ?ood1) (v := ?vvd1) ?hid1 (by kernel_rfl) (by kernel_rfl) (by kernel_rfl) ?hqd1 (by kernel_rfl) ?hyd1 (fun _ => S0) ?hhd1
  case hid1 => (simp only [List.getElem?_toArray, List.getElem?_cons_succ, List.getElem?_cons_zero]; rfl)
  case hqd1 => exact fun _ _ _ h => h
  case hyd1 => exact Or.inl ⟨by rfl, by (intro W; go_simp; (try with_reducible rfl))⟩
  (try simp only [Act.put, List.setIfInBounds_toArray, List.set_cons_zero, List.set_cons_succ])
  refine tillH_takeAny (i := 1) (oi := ?ood2) (v := ?vvd2) ?hid2 (by kernel_rfl) (by kernel_rfl) (by kernel_rfl) ?hqd2 (by kernel_rfl) ?hyd2 (fun _ => S0) ?hhd2
  case hid2 => (simp only [List.getElem?_toArray, List.getElem?_cons_succ, List.getElem?_cons_zero]; rfl)
  case hqd2 => exact fun _ _ _ h => h
  case hyd2 => exact Or.inl ⟨by rfl, by (intro W; go_simp; (try with_reducible rfl))⟩
  (try simp only [Act.put, List.setIfInBounds_toArray, List.set_cons_zero, List.set_cons_succ])
  refine tillH_takeAny (i := 2) (oi := ?ood3) (v := ?vvd3) ?hid3 (by kernel_rfl) (by kernel_rfl) (by kernel_rfl) ?hqd3 (by kernel_rfl) ?hyd3 (fun _ => S0) ?hhd3
  case hid3 => (simp only [List.getElem?_toArray, List.getElem?_cons_succ, List.getElem?_cons_zero]; rfl)
  case hqd3 => exact fun _ _ _ h => h
  case hyd3 => exact Or.inl ⟨by rfl, by (intro W; go_simp; (try with_reducible rfl))⟩
  (try simp only [Act.put, List.setIfInBounds_toArray, List.set_cons_zero, List.set_cons_succ])
  refine tillH_take (i := 3) (oi := ?ood4) (v := ?vvd4) ?hid4 (by kernel_rfl) (by kernel_rfl) (by kernel_rfl) ?hqd4 (by kernel_rfl) (by kernel_rfl) (by kernel_rfl) ?hyd4 S0 ?hhd4
  case hid4 => (simp only [List.getElem?_toArray, List.getElem?_cons_succ, List.getElem?_cons_zero]; rfl)
  case hqd4 => exact fun _ _ _ h => h
  case hyd4 => exact Or.inl ⟨by rfl, by (intro W hSw; (try obtain ⟨s0, s1, s2, s3⟩ := hSw); go_simp; (try with_reducible rfl))⟩
  (try simp only [Act.put, List.setIfInBounds_toArray, List.set_cons_zero, List.set_cons_succ])
  refine tillH_take (i := 4) (oi := ?ood5) (v := ?vvd5) ?hid5 (by kernel_rfl) (by kernel_rfl) (by kernel_rfl) ?hqd5 (by kernel_rfl) (by kernel_rfl) (by kernel_rfl) ?hyd5 S0 ?hhd5
  case hid5 => (simp only [List.getElem?_toArray, List.getElem?_cons_succ, List.getElem?_cons_zero]; rfl)
  case hqd5 => exact fun _ _ _ h => h
  case hyd5 => exact Or.inl ⟨by rfl, by (intro W hSw; (try obtain ⟨s0, s1, s2, s3⟩ := hSw); go_simp; (try with_reducible rfl))⟩
  (try simp only [Act.put, List.setIfInBounds_toArray, List.set_cons_zero, List.set_cons_succ])
  refine tillH_next (rs := [5]) (by kernel_rfl) (by simp) ?_
  refine NextH.cons rfl (fun K hK => ?_) NextH.nil
  go_simp
  refine (HO.out _ HBD.out).mono ?_
  rintro e E2 ⟨rfl, b6⟩
  have HB2 := Lib.hid (HBD.out.trans (b6.mono HBD.out.size))
  clear b6 HBD HO
  refine hK.out _ _ (fun h => absurd h (by simp)) ?_
  clear hK K
  (try simp only [Act.put, List.setIfInBounds_toArray, List.set_cons_zero, List.set_cons_succ])
  refine tillH_takeAny (i := 6) (oi := ?ood6) (v := ?vvd6) ?hid6 (by kernel_rfl) (by kernel_rfl) (by kernel_rfl) ?hqd6 (by kernel_rfl) ?hyd6 (fun h => absurd h (by simp)) ?hhd6
  case hid6 => (simp only [List.getElem?_toArray, List.getElem?_cons_succ, List.getElem?_cons_zero]; rfl)
  case hqd6 => exact fun _ _ _ h => h
  case hyd6 => exact Or.inl ⟨by rfl, by (intro W; go_simp; (try with_reducible rfl))⟩
  (try simp only [Act.put, List.setIfInBounds_toArray, List.set_cons_zero, List.set_cons_succ])
  refine tillH_done (by kernel_rfl) ?_ _
  refine HKV.out _ _ ?_
  have HX := Lib.hid (HV.out.below HB2.out HV.out.lt)
  have c0 : E2.cell? ⟨b, 0, none⟩ = some (.int .i64 C) := by rw [HX.out.cell]; rfl
  go_wp2_with (fail)
  refine wp_var0 (fun KV HKV => ?_)
  refine wp_region_till (m := 5) (S := (fun W => W.cell? ⟨b, 0, none⟩ = some (.int .i64 C))) (by kernel_rfl) ?_
  have e4 : E2.drew = E2.drewN 1 := rfl
  rw [e4]
  have S0 : (E2.drewN 1).cell? ⟨b, 0, none⟩ = some (.int .i64 C) := c0
  have HB3 := Lib.hid (below_drw HB2.out 1)
  clear e4 c0 HB2 HX
  generalize E2.drewN 1 = G0 at *
  change tillH _ _ _ _ _ _ 10 #[false, false, false, false, false, false, false, false, false, false] _ _
  refine tillH_takeAny (i := 1) (oi := ?oo7) (v := ?vv7) ?hi7 (by kernel_rfl) (by kernel_rfl) (by kernel_rfl) ?hq7 (by kernel_rfl) ?hy7 (fun _ => S0) ?hh7
  case hi7 => (simp only [List.getElem?_toArray, List.getElem?_cons_succ, List.getElem?_cons_zero]; rfl)
  case hq7 => exact fun _ _ _ h => h
  case hy7 => exact Or.inl ⟨by rfl, by (intro W; go_simp; (try with_reducible rfl))⟩
  (try simp only [Act.put, List.setIfInBounds_toArray, List.set_cons_zero, List.set_cons_succ])
  refine tillH_takeAny (i := 2) (oi := ?oo8) (v := ?vv8) ?hi8 (by kernel_rfl) (by kernel_rfl) (by kernel_rfl) ?hq8 (by kernel_rfl) ?hy8 (fun _ => S0) ?hh8
  case hi8 => (simp only [List.getElem?_toArray, List.getElem?_cons_succ, List.getElem?_cons_zero]; rfl)
  case hq8 => exact fun _ _ _ h => h
  case hy8 => exact Or.inl ⟨by rfl, by (intro W; go_simp; (try with_reducible rfl))⟩
  (try simp only [Act.put, List.setIfInBounds_toArray, List.set_cons_zero, List.set_cons_succ])
  refine tillH_takeAny (i := 3) (oi := ?oo9) (v := ?vv9) ?hi9 (by kernel_rfl) (by kernel_rfl) (by kernel_rfl) ?hq9 (by kernel_rfl) ?hy9 (fun _ => S0) ?hh9
  case hi9 => (simp only [List.getElem?_toArray, List.getElem?_cons_succ, List.getElem?_cons_zero]; rfl)
  case hq9 => exact fun _ _ _ h => h
  case hy9 => exact Or.inl ⟨by rfl, by (intro W; go_simp; (try with_reducible rfl))⟩
  (try simp only [Act.put, List.setIfInBounds_toArray, List.set_cons_zero, List.set_cons_succ])
  refine tillH_take (i := 4) (oi := ?oo10) (v := ?vv10) ?hi10 (by kernel_rfl) (by kernel_rfl) (by kernel_rfl) ?hq10 (by kernel_rfl) (by kernel_rfl) (by kernel_rfl) ?hy10 S0 ?hh10
  case hi10 => (simp only [List.getElem?_toArray, List.getElem?_cons_succ, List.getElem?_cons_zero]; rfl)
  case hq10 => exact fun _ _ _ h => h
  case hy10 => exact Or.inl ⟨by rfl, by (intro W hSw; (try obtain s0 := hSw); go_simp; (try with_reducible rfl))⟩
  (try simp only [Act.put, List.setIfInBounds_toArray, List.set_cons_zero, List.set_cons_succ])
  refine tillH_next (rs := [0]) (by kernel_rfl) (by simp) ?_
  refine NextH.cons rfl (fun K hK => ?_) NextH.nil
  go_simp
  refine (fields_any G0 (HF.out G0 HB3.out)).mono ?_
  rintro e G1 ⟨rfl, rfl⟩
  have ba := (Below.refl G0.heap.size G0).alloc (Nat.le_refl _) (.cells clsV 9)
  have S1 : (G0.alloc (.cells clsV 9)).cell? ⟨b, 0, none⟩ = some (.int .i64 C) := (ba.cell (World.block_lt_of_cell? _ _ S0)).trans S0
  have hk : (G0.alloc (.cells clsV 9)).cell? ⟨G0.heap.size, c, none⟩ = some (.string ⟨nm.toArray⟩) := by rw [(Blk.new G0 9 clsV).cell, clsV_at c HCC.out.2, HNM.out]
  have HB4 := Lib.hid (HB3.out.trans (ba.mono HB3.out.size))
  clear ba HB3
  refine hK.out _ _ (fun _ => S1) ?_
  clear hK K
  (try simp only [Act.put, List.setIfInBounds_toArray, List.set_cons_zero, List.set_cons_succ])
  generalize G0.alloc (.cells clsV 9) = G1 at *
  generalize G0.heap.size = gg at *
  refine tillH_next (rs := [5]) (by kernel_rfl) (by simp) ?_
  refine NextH.cons rfl (fun K hK => ?_) NextH.nil
  go_simp
  (try rw [z2])
  refine hK.out _ _ (fun h => absurd h (by simp)) ?_
  clear hK K
  (try simp only [Act.put, List.setIfInBounds_toArray, List.set_cons_zero, List.set_cons_succ])
  refine tillH_next (rs := [6]) (by kernel_rfl) (by simp) ?_
  refine NextH.cons rfl (fun K hK => ?_) NextH.nil
  go_simp
  refine hK.out _ _ (fun h => absurd h (by simp)) ?_
  clear hK K
  (try simp only [Act.put, List.setIfInBounds_toArray, List.set_cons_zero, List.set_cons_succ])
  have t7 : ¬ 9223372036854775807 < 1 + nm.length := by omega
  have t8 : ¬ 9223372036854775807 < 1 + nm.length + 1 := by omega
  have t9 : ¬ 9223372036854775807 < nm.length + 1 + 1 := by omega
  refine tillH_takeAny (i := 7) (oi := ?oo11) (v := ?vv11) ?hi11 (by kernel_rfl) (by kernel_rfl) (by kernel_rfl) ?hq11 (by kernel_rfl) ?hy11 (fun h => absurd h (by simp)) ?hh11
  case hi11 => (simp only [List.getElem?_toArray, List.getElem?_cons_succ, List.getElem?_cons_zero]; rfl)
  case hq11 => exact fun _ _ _ h => h
  case hy11 => exact Or.inl ⟨by rfl, by (intro W; go_simp; (try with_reducible rfl))⟩
  (try simp only [Act.put, List.setIfInBounds_toArray, List.set_cons_zero, List.set_cons_succ])
  refine tillH_takeAny (i := 8) (oi := ?oo12) (v := ?vv12) ?hi12 (by kernel_rfl) (by kernel_rfl) (by kernel_rfl) ?hq12 (by kernel_rfl) ?hy12 (fun h => absurd h (by simp)) ?hh12
  case hi12 => (simp only [List.getElem?_toArray, List.getElem?_cons_succ, List.getElem?_cons_zero]; rfl)
  case hq12 => exact fun _ _ _ h => h
  case hy12 => exact Or.inl ⟨by rfl, by (intro W; go_simp; (try with_reducible rfl))⟩
  (try simp only [Act.put, List.setIfInBounds_toArray, List.set_cons_zero, List.set_cons_succ])
  refine tillH_takeAny (i := 9) (oi := ?oo13) (v := ?vv13) ?hi13 (by kernel_rfl) (by kernel_rfl) (by kernel_rfl) ?hq13 (by kernel_rfl) ?hy13 (fun h => absurd h (by simp)) ?hh13
  case hi13 => (simp only [List.getElem?_toArray, List.getElem?_cons_succ, List.getElem?_cons_zero]; rfl)
  case hq13 => exact fun _ _ _ h => h
  case hy13 => exact Or.inl ⟨by rfl, by (intro W; go_simp; (try with_reducible rfl))⟩
  (try simp only [Act.put, List.setIfInBounds_toArray, List.set_cons_zero, List.set_cons_succ])
  refine tillH_done (by kernel_rfl) ?_ _
  refine HKV.out _ _ ?_
  go_wp2_with (fail)
  go_ret
  exact ⟨congrArg (fun b => Ending.returned (.string b)) (ByteArray.ext (by first | rfl | (apply Array.ext'; simp [ByteArray.data_append]))), HB4.out⟩
end Go.Proofs.YtdeboajjhpecbaaGreatDoor.Hp
