/- Contract of the statements' own example 'fit' (values): it returns true. -/
import Derived.Test.YtjkboelcpihphaaDoorValG
import Derived.Lib.QuietBelow
set_option linter.unusedVariables false
set_option linter.unusedSimpArgs false
namespace Go.Proofs.YtjkboelcpihphaaDoor
open Go.RowKit Go.Sort

theorem uT_ascii (l : List UInt8) (h : ∀ c, c ∈ l → c.toNat < 128) : uT ⟨l.toArray⟩ = Tx.uS (l.map (·.toNat)) := by
  unfold uT
  rw [Tx.ofB_ascii l h]; rfl
theorem uT_a : uT ⟨#[97]⟩ = Tx.uS [97] := uT_ascii [97] (by decide)
theorem uT_1 : uT ⟨#[49]⟩ = Tx.uS [49] := uT_ascii [49] (by decide)
theorem uT_a1 : uT ⟨#[97, 49]⟩ = Tx.uS [97, 49] := uT_ascii [97, 49] (by decide)
theorem itoa_1 : Lib.itoa 1 = [49] := by
  unfold Lib.itoa
  simp
  rw [Lib.decDigits]; rfl
theorem vfits2 : Tx.Fits [97, 49] := by unfold Tx.Fits; decide
theorem vfits1 : Tx.Fits [97] := by unfold Tx.Fits; decide
theorem vfits0 : Tx.Fits [] := fun u h => by cases h
theorem isV_a : IsV 7 0 (Tx.uS [97]) := ⟨by decide, by decide, fun a b => by omega, fun h => absurd rfl h, fun h => by omega, [97], vfits1, rfl, by decide⟩
theorem isV_1 : IsV 3 1 ⟨#[]⟩ := ⟨by decide, by decide, fun a b => .inr (.inr (.inr ⟨rfl, by decide, by decide⟩)), fun h => rfl, fun h => by omega, [], vfits0, rfl, by decide⟩
theorem isV_0 : IsV 0 0 ⟨#[]⟩ := ⟨by decide, by decide, fun a b => by omega, fun h => rfl, fun h => by omega, [], vfits0, rfl, by decide⟩
theorem bin_a1 : binF 0 7 0 (Tx.uS [97]) [97] 3 1 ⟨#[]⟩ [] = (7, 0, Tx.uS [97, 49], 0) := by
  have e : txtF 3 1 = ⟨#[49]⟩ := by
    show (⟨(Lib.itoa 1).toArray⟩ : ByteArray) = _
    rw [itoa_1]
  show joinF 7 0 (Tx.uS [97]) 3 1 ⟨#[]⟩ = _
  unfold joinF
  rw [show textF 7 0 (Tx.uS [97]) = (Tx.uS [97], 0) from rfl, show textF 3 1 ⟨#[]⟩ = (uT (txtF 3 1), 0) from rfl, e, uT_1]
  rfl
theorem bin_01 : binF 5 0 0 ⟨#[]⟩ [] 3 1 ⟨#[]⟩ [] = (2, 0, ⟨#[]⟩, 0) := rfl
theorem valT (b : ByteArray) (w : World) (h : b.size ≤ 1000) : Calls Tryd.prog 34 #[.string b] w (Ret (VS 7 0 (uT b)) w) := Tx.val_any b w (by omega)

set_option maxHeartbeats 8000000 in
set_option maxRecDepth 100000 in
theorem fit_any (w : World) (hT : Tb w) : Calls Tryd.prog 9 #[] w (Ret (.bool true) w) := by
  have HT := Lib.hid hT
  have C1 := fun W => valT ⟨#[97]⟩ W (by decide)
  rw [uT_a] at C1
  have H1 := Lib.hid C1
  have C2 := fun (W : World) (hW : Below w.heap.size w W) => binary_any isV_a isV_1 rfl vfits1 rfl vfits0 0 (by decide) W (hT.below hW)
  rw [bin_a1] at C2
  have H2 := Lib.hid C2
  have C3 := fun (W : World) (hW : Below w.heap.size w W) => binary_any isV_0 isV_1 rfl vfits0 rfl vfits0 5 (by decide) W (hT.below hW)
  rw [bin_01] at C3
  have H3 := Lib.hid C3
  have C4 := fun W => valT ⟨#[97, 49]⟩ W (by decide)
  rw [uT_a1] at C4
  have H4 := Lib.hid C4
  clear C1 C2 C3 C4 hT
  have q0 : ((Tx.uS [97, 49]).toList == (Tx.uS [97, 49]).toList) = true := by simp
  generalize Tx.uS [97, 49] = S at *
  go_enter Tryd.func9, Tryd.ntmps9
  go_wp2_with fail
  refine (H1.out _).mono ?_
  rintro e w1 ⟨rfl, b1⟩
  have bb := b1
  go_wp2_with fail
  refine (H2.out _ bb).mono ?_
  rintro e w2 ⟨rfl, b2⟩
  have bb := bb.trans (b2.mono bb.size)
  go_wp2_with fail
  have k_v := Blk.new w2 27 #[.int .i64 7, .int .i64 0, .string S]
  have bb := bb.alloc bb.size (.cells #[.int .i64 7, .int .i64 0, .string S] 27)
  generalize w2.alloc (.cells #[.int .i64 7, .int .i64 0, .string S] 27) = V1 at *
  refine (H3.out _ bb).mono ?_
  rintro e w3 ⟨rfl, b3⟩
  have k_v := k_v.below b3 k_v.lt
  have bb := bb.trans (b3.mono bb.size)
  have x_v0 : w3.cell? ⟨w2.heap.size, 0, none⟩ = some (.int .i64 7) := by rw [k_v.cell]; rfl
  have x_v1 : w3.cell? ⟨w2.heap.size, 1, none⟩ = some (.int .i64 0) := by rw [k_v.cell]; rfl
  have x_v2 : w3.cell? ⟨w2.heap.size, 2, none⟩ = some (.string S) := by rw [k_v.cell]; rfl
  have l_v := k_v.lt
  go_wp2_with fail
  have k_v := k_v.alloc (.cells #[.int .i64 2, .int .i64 0, .string ⟨#[]⟩] 27)
  have k_u := Blk.new w3 27 #[.int .i64 2, .int .i64 0, .string ⟨#[]⟩]
  have bb := bb.alloc bb.size (.cells #[.int .i64 2, .int .i64 0, .string ⟨#[]⟩] 27)
  clear x_v0 x_v1 x_v2 l_v
  generalize w3.alloc (.cells #[.int .i64 2, .int .i64 0, .string ⟨#[]⟩] 27) = W at *
  have x_v0 : W.cell? ⟨w2.heap.size, 0, none⟩ = some (.int .i64 7) := by rw [k_v.cell]; rfl
  have Q_v0 := fun d os => cell_regrown x_v0 d os
  have x_v1 : W.cell? ⟨w2.heap.size, 1, none⟩ = some (.int .i64 0) := by rw [k_v.cell]; rfl
  have Q_v1 := fun d os => cell_regrown x_v1 d os
  have x_v2 : W.cell? ⟨w2.heap.size, 2, none⟩ = some (.string S) := by rw [k_v.cell]; rfl
  have Q_v2 := fun d os => cell_regrown x_v2 d os
  have x_u0 : W.cell? ⟨w3.heap.size, 0, none⟩ = some (.int .i64 2) := by rw [k_u.cell]; rfl
  have Q_u0 := fun d os => cell_regrown x_u0 d os
  have x_u1 : W.cell? ⟨w3.heap.size, 1, none⟩ = some (.int .i64 0) := by rw [k_u.cell]; rfl
  have Q_u1 := fun d os => cell_regrown x_u1 d os
  have x_u2 : W.cell? ⟨w3.heap.size, 2, none⟩ = some (.string ⟨#[]⟩) := by rw [k_u.cell]; rfl
  have Q_u2 := fun d os => cell_regrown x_u2 d os
  clear x_v0 x_v1 x_v2 x_u0 x_u1 x_u2
  have up := fun d os => bb.trans ((below_regrown W d os).mono bb.size)
  have D1 := fun d os => Calls.regrown_of (H4.out (grow (redrawn W d) os))
  have D2 := fun d os => Calls.regrown_of (truth_any false (grow (redrawn W d) os))
  have D3 := fun d os => Calls.regrown_of (truth_any true (grow (redrawn W d) os))
  have D4 := fun d os => Calls.regrown_of (true_any 2 1 ⟨#[]⟩ (grow (redrawn W d) os) (by decide) (by decide))
  rw [show trueB 2 1 ⟨#[]⟩ = true from rfl] at D4
  simp only [show tN false = 0 from rfl, show tN true = 1 from rfl] at D2 D3
  refine wp_region_quiet_below (by kernel_rfl) (by kernel_rfl) ?_
  repeat (first | go_big_quiet_step (first | with_reducible exact D1 _ _ | with_reducible exact D2 _ _ | with_reducible exact D3 _ _ | with_reducible exact D4 _ _) | quiet_step (first | with_reducible exact D1 _ _ | with_reducible exact D2 _ _ | with_reducible exact D3 _ _ | with_reducible exact D4 _ _))
  refine wpQuiet_nil ?_
  intro _ hw'
  obtain ⟨⟨dq, osq⟩, hw''⟩ := hw'
  subst hw''
  have be := up dq osq
  clear D1 D2 D3 D4 up Q_v0 Q_v1 Q_v2 Q_u0 Q_u1 Q_u2
  go_wp2
  go_ret
  exact ⟨by simp, be⟩
end Go.Proofs.YtjkboelcpihphaaDoor
