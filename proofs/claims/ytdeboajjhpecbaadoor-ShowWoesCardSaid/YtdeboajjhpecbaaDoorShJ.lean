/- Show: the example is printed as it is said. -/
import Derived.Test.YtdeboajjhpecbaaDoorShI
set_option linter.unusedVariables false
set_option linter.unusedSimpArgs false
namespace Go.Proofs.YtdeboajjhpecbaaDoor.Hp
open Go.RowKit Go.Proofs.YtdeboajjhpecbaaDoor Go.Shelf
set_option maxRecDepth 100000 in
set_option maxHeartbeats 8000000 in
theorem fit_any (w : World) (hT : Vx.Tb w) : Calls Tryd.prog 6 #[] w (Ret (.bool true) w) := by
  have HT := Lib.hid hT
  clear hT
  go_enter Tryd.func6, Tryd.ntmps6
  go_wp2_with (fail)
  refine (machine_any _).mono ?_
  rintro e w1 ⟨m, H, A, B, cv, cs, ps, rfl, hM, hc, b1⟩
  have HM := Lib.hid (And.intro hM (And.intro hc b1))
  clear hM hc b1
  go_wp2_with (fail)
  have hg1 : w1.heap.size < (w1.alloc (.cells #[.int .i64 3, .int .i64 2, .string ⟨#[]⟩] 26)).heap.size := by simp
  have ha1 : Below w1.heap.size w1 (w1.alloc (.cells #[.int .i64 3, .int .i64 2, .string ⟨#[]⟩] 26)) := (Below.refl _ _).alloc (Nat.le_refl _) _
  have hV1 := Blk.new w1 26 #[.int .i64 3, .int .i64 2, .string ⟨#[]⟩]
  have hN1 : w.heap.size ≤ w1.heap.size := HM.out.2.2.size
  refine ((HM.out.1.below ha1).array _ 1 1 (by have := HM.out.2.1; omega) (by omega)).mono ?_
  rintro e w2 ⟨b, T, cv2, rfl, hM2, hB, hTb, h3, hK, b6⟩
  have hs2 : Shs False (fun _ => False) m w2 (cs ++ [(some (tObj, b), false)]) 1 (9, ((cs.length + 1 : Nat) : Int), ⟨#[]⟩) [91, 50, 93] :=
    Shs.mk (L := [(3, 2, ⟨#[]⟩)]) (ss := [[50]]) hK hB _ hV1 (fun i hi => by match i, hi with | 0, _ => rfl | 1, _ => rfl | 2, _ => rfl) (by decide) (by decide) rfl (by decide) (by decide) id id (fun i k hk => by
      match i, hk with
      | 0, hk =>
        simp at hk; subst hk
        exact Shs.digit _ 2 (by decide))
  have hl2 : (cs ++ [(some (tObj, b), false)]).length = 22 := by have := HM.out.2.1; simp; omega
  have hb2 := (HM.out.2.2.trans (ha1.mono hN1)).trans b6
  obtain ⟨r, hr⟩ : ∃ r : Int, ((cs.length + 1 : Nat) : Int) = r := ⟨_, rfl⟩
  rw [hr] at hs2 ⊢
  obtain ⟨cs2, hcs2⟩ : ∃ c, c = cs ++ [(some (tObj, b), false)] := ⟨_, rfl⟩
  rw [← hcs2] at hs2 hl2 hM2
  have HP := Lib.hid (And.intro hM2 (And.intro hs2 (And.intro hl2 hb2)))
  clear HM hg1 ha1 hV1 hN1 hM2 hB hTb h3 hK b6 hs2 hl2 hb2 hr hcs2
  go_wp2_with (fail)
  refine (Tx.val_any ⟨#[97]⟩ w2 (by decide)).mono ?_
  rintro e w3 ⟨rfl, b3⟩
  have hu : Tx.ofB ⟨#[97]⟩ = [0, 97] := by rw [show (⟨#[97]⟩ : ByteArray) = ⟨[97].toArray⟩ from rfl, Tx.ofB_ascii [97] (by decide)]; rfl
  rw [hu]
  have HQ := Lib.hid (And.intro (HP.out.1.below b3) (And.intro (HP.out.2.1.keep ((Kp.of_below b3).e _)) (And.intro HP.out.2.2.1 (HP.out.2.2.2.trans (b3.mono HP.out.2.2.2.size)))))
  clear HP b3 hu
  go_wp2_with (fail)
  have ha1 : Below w3.heap.size w3 (w3.alloc (.cells #[.int .i64 3, .int .i64 1, .string ⟨#[]⟩, .int .i64 9, .int .i64 r, .string ⟨#[]⟩, .int .i64 7, .int .i64 0, .string ⟨#[0, 97]⟩] 26)) := (Below.refl _ _).alloc (Nat.le_refl _) _
  have hV1 := Blk.new w3 26 #[.int .i64 3, .int .i64 1, .string ⟨#[]⟩, .int .i64 9, .int .i64 r, .string ⟨#[]⟩, .int .i64 7, .int .i64 0, .string ⟨#[0, 97]⟩]
  have hN1 : w.heap.size ≤ w3.heap.size := HQ.out.2.2.2.size
  refine ((HQ.out.1.below ha1).array _ 3 3 (by have := HQ.out.2.2.1; omega) (by simp; omega)).mono ?_
  rintro e w4 ⟨b', T', cv4, rfl, hM4, hB, hTb, h3, hK, b6⟩
  have hs4 : Shs False (fun _ => False) m w4 (cs2 ++ [(some (tObj, b'), false)]) 0 (9, ((cs2.length + 1 : Nat) : Int), ⟨#[]⟩) [91, 49, 44, 32, 91, 50, 93, 44, 32, 97, 93] :=
    Shs.mk (L := [(3, 1, ⟨#[]⟩), (9, r, ⟨#[]⟩), (7, 0, ⟨#[0, 97]⟩)]) (ss := [[49], [91, 50, 93], [97]]) hK hB _ hV1 (fun i hi => by match i, hi with | 0, _ => rfl | 1, _ => rfl | 2, _ => rfl | 3, _ => rfl | 4, _ => rfl | 5, _ => rfl | 6, _ => rfl | 7, _ => rfl | 8, _ => rfl) (by decide) (by decide) rfl (by simp) (by decide) id id (fun i k hk => by
      match i, hk with
      | 0, hk =>
        simp at hk; subst hk
        exact Shs.digit _ 1 (by decide)
      | 1, hk =>
        simp at hk; subst hk
        exact HQ.out.2.1.keep ((Kp.of_below ha1).e _)
      | 2, hk =>
        simp at hk; subst hk
        exact Shs.str _ [97] (fun u hu => (by simp at hu; omega)) (by decide))
  have hl4 : (cs2 ++ [(some (tObj, b'), false)]).length = 23 := by have := HQ.out.2.2.1; simp; omega
  have hb4 := (HQ.out.2.2.2.trans (ha1.mono hN1)).trans b6
  obtain ⟨r', hr'⟩ : ∃ r : Int, ((cs2.length + 1 : Nat) : Int) = r := ⟨_, rfl⟩
  rw [hr'] at hs4 ⊢
  obtain ⟨cs4, hcs4⟩ : ∃ c, c = cs2 ++ [(some (tObj, b'), false)] := ⟨_, rfl⟩
  rw [← hcs4] at hs4 hl4 hM4
  have bn := (Below.refl w4.heap.size w4).alloc (Nat.le_refl _) (.cells #[.int .i64 9, .int .i64 r', .string ⟨#[]⟩] 26)
  have HP := Lib.hid (And.intro (hM4.below bn) (And.intro (hs4.keep ((Kp.of_below bn).e _)) (And.intro hl4 (hb4.trans (bn.mono hb4.size)))))
  clear HQ ha1 hV1 hN1 hM4 hB hTb h3 hK b6 hs4 hl4 hb4 hr' hcs4 bn
  go_wp2_with (fail)
  refine (Show_any m 9 r' ⟨#[]⟩ _ (by show (91 :: 49 :: _ : List UInt8).length ≤ _; decide) _ (fun W hW => shs_show HP.out.1 (by have := HP.out.2.2.1; omega) (fun W' hW' => HT.out.below (HP.out.2.2.2.trans (hW'.mono HP.out.2.2.2.size))) HP.out.2.1 W hW)).mono ?_
  rintro e w5 ⟨rfl, b5⟩
  have HB := Lib.hid (HP.out.2.2.2.trans (b5.mono HP.out.2.2.2.size))
  clear HP b5
  go_wp2
  go_ret
  exact ⟨rfl, HB.out⟩
end Go.Proofs.YtdeboajjhpecbaaDoor.Hp
