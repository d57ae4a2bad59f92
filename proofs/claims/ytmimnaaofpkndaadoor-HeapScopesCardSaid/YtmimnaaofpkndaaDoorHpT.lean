/- The heap: an array's own properties are set. -/
import Derived.Test.YtmimnaaofpkndaaDoorHpS
set_option linter.unusedVariables false
set_option linter.unusedSimpArgs false
namespace Go.Proofs.YtmimnaaofpkndaaDoor.Hp
open Go.RowKit Go.Proofs.YtmimnaaofpkndaaDoor Go.Shelf
attribute [local go_sem] Oper.semAt_some

set_option maxRecDepth 100000 in
set_option maxHeartbeats 4000000 in
theorem define_len (b T B : Nat) (lv : Value) (L : List K3) (v1 v2 : Int) (v3 : ByteArray) (w : World) (h : ArrE w b T B lv L) (hLg : Lg w) (hL : L.length ≤ 1000) (R : Bool) (Post : World → Prop)
    (hres : ∀ W, Below w.heap.size w W → Calls Tryd.prog 43 #[.pointer (some ⟨b, 0, none⟩), VS v1 v2 v3] W fun e w' => e = .returned (.bool R) ∧ Post w') :
    Calls Tryd.prog 12 #[.pointer (some ⟨b, 0, none⟩), VK lenK, VS v1 v2 v3, .int .i64 1] w fun e w' => e = .returned (.bool R) ∧ Post w' := by
  have H := Lib.hid h
  have HL := Lib.hid hLg
  have HRS := Lib.hid hres
  have hown := fun W (bw : Below w.heap.size w W) => own_len b T B lv L W (h.below bw) (hLg.below bw) hL
  have hidx := fun W (bw : Below w.heap.size w W) => hindex_any b T 1 0 false lv nilP nilP nilS 0 lenK W (h.below bw).ob (by decide)
  rw [lenK_idx] at hidx
  obtain ⟨ks, hks⟩ : ∃ s, (⟨#[0, 108, 0, 101, 0, 110, 0, 103, 0, 116, 0, 104]⟩ : ByteArray) = s := ⟨_, rfl⟩
  have hkk : lenK = (7, 0, ks) := by rw [← hks]; rfl
  rw [hkk] at hown hidx ⊢
  obtain ⟨k1, hk1⟩ : ∃ k : Int, k = 7 := ⟨_, rfl⟩
  obtain ⟨k2, hk2⟩ : ∃ k : Int, k = 0 := ⟨_, rfl⟩
  obtain ⟨k3, hk3⟩ : ∃ k, k = ks := ⟨_, rfl⟩
  rw [← hk1, ← hk2, ← hk3] at hown hidx ⊢
  rw [← hk1, ← hk2, ← hk3] at hkk
  have HKK := Lib.hid (And.intro hkk (And.intro hk1 (And.intro hk2 hk3)))
  have HOI := Lib.hid (And.intro hown hidx)
  clear hkk hk1 hk2 hk3 hLg hks h hown hidx hres
  have b1 : Below w.heap.size w ((w.alloc (.cells #[.int .i64 k1, .int .i64 k2, .string k3] 34)).alloc (.cells #[.int .i64 v1, .int .i64 v2, .string v3] 34)) := ((Below.refl _ _).alloc (Nat.le_refl _) _).alloc (by simp) _
  have kb : Blk ((w.alloc (.cells #[.int .i64 k1, .int .i64 k2, .string k3] 34)).alloc (.cells #[.int .i64 v1, .int .i64 v2, .string v3] 34)) w.heap.size 34 #[.int .i64 k1, .int .i64 k2, .string k3] := (Blk.new w _ _).alloc _
  have vb : Blk ((w.alloc (.cells #[.int .i64 k1, .int .i64 k2, .string k3] 34)).alloc (.cells #[.int .i64 v1, .int .i64 v2, .string v3] 34)) (w.heap.size + 1) 34 #[.int .i64 v1, .int .i64 v2, .string v3] := by
    have := Blk.new (w.alloc (.cells #[.int .i64 k1, .int .i64 k2, .string k3] 34)) 34 #[.int .i64 v1, .int .i64 v2, .string v3]
    rwa [World.size_alloc] at this
  have HB := Lib.hid (And.intro b1 (And.intro kb vb))
  clear b1 kb vb
  go_enter Tryd.func12, Tryd.ntmps12
  go_wp2_with (fail)
  refine (HOI.out.1 _ HB.out.1).mono ?_
  rintro e w2 ⟨rfl, b2⟩
  obtain ⟨b1, kb, vb⟩ := HB.out
  have b02 := b1.trans (b2.mono b1.size)
  have kb2 := kb.below b2 kb.lt
  have vb2 := vb.below b2 vb.lt
  obtain ⟨n, hn⟩ : ∃ n : Int, (L.length : Int) = n := ⟨_, rfl⟩
  rw [hn]
  have p0 : w2.cell? ⟨w.heap.size, 0, none⟩ = some (.int .i64 k1) := by rw [kb2.cell]; rfl
  have p1 : w2.cell? ⟨w.heap.size, 1, none⟩ = some (.int .i64 k2) := by rw [kb2.cell]; rfl
  have p2 : w2.cell? ⟨w.heap.size, 2, none⟩ = some (.string k3) := by rw [kb2.cell]; rfl
  have pl := kb2.lt
  have a0 : bits .and .i64 1 4 = 0 := by decide
  have a1 : bits .and .i64 1 1 = 1 := by decide
  have a2 : bits .andNot .i64 1 1 = 0 := by decide
  have b3 := b02.alloc b02.size (.cells #[.int .i64 3, .int .i64 n, .string ⟨#[]⟩] 34)
  have HB2 := Lib.hid (And.intro b3 (And.intro (kb2.alloc (.cells #[.int .i64 3, .int .i64 n, .string ⟨#[]⟩] 34)) (vb2.alloc (.cells #[.int .i64 3, .int .i64 n, .string ⟨#[]⟩] 34))))
  clear b1 kb vb b2 b02 kb2 vb2 b3 HB hn
  go_wp2_with (fail)
  refine (HOI.out.2 _ HB2.out.1).mono ?_
  rintro e w4 ⟨rfl, b4⟩
  obtain ⟨b3, kb3, vb3⟩ := HB2.out
  have b04 := b3.trans (b4.mono b3.size)
  have kb4 := kb3.below b4 kb3.lt
  have vb4 := vb3.below b4 vb3.lt
  have h4 := H.out.below b04
  have g4 := HL.out.below b04
  have p0 : w4.cell? ⟨w.heap.size, 0, none⟩ = some (.int .i64 k1) := by rw [kb4.cell]; rfl
  have p1 : w4.cell? ⟨w.heap.size, 1, none⟩ = some (.int .i64 k2) := by rw [kb4.cell]; rfl
  have p2 : w4.cell? ⟨w.heap.size, 2, none⟩ = some (.string k3) := by rw [kb4.cell]; rfl
  have q0 : w4.cell? ⟨w.heap.size + 1, 0, none⟩ = some (.int .i64 v1) := by rw [vb4.cell]; rfl
  have q1 : w4.cell? ⟨w.heap.size + 1, 1, none⟩ = some (.int .i64 v2) := by rw [vb4.cell]; rfl
  have q2 : w4.cell? ⟨w.heap.size + 1, 2, none⟩ = some (.string v3) := by rw [vb4.cell]; rfl
  have o0 : w4.cell? ⟨b, 0, none⟩ = some (.int .i64 1) := by rw [h4.ob.cell]; rfl
  have g0 : w4.cell? ⟨0, 0, none⟩ = some (.int .i64 k1) := by rw [HKK.out.2.1]; exact g4.1
  have g1 : w4.cell? ⟨0, 1, none⟩ = some (.int .i64 k2) := by rw [HKK.out.2.2.1]; exact g4.2.1
  have g2 : w4.cell? ⟨0, 2, none⟩ = some (.string k3) := by rw [g4.2.2, show lenK.2.2 = k3 from congrArg (·.2.2) HKK.out.1]
  have s0 : (k1 == k1) = true := by simp
  have s1 : (k2 == k2) = true := by simp
  have s2 : (k3.toList == k3.toList) = true := by simp
  have HB4 := Lib.hid b04
  clear b3 kb3 vb3 b4 b04 kb4 vb4 h4 g4 HB2 HOI HKK H HL
  go_wp2_with (fail)
  refine (HRS.out _ HB4.out).mono ?_
  rintro e w5 ⟨rfl, hp⟩
  have HP := Lib.hid hp
  clear hp HRS
  cases R
  · go_wp2
    go_ret
    exact ⟨rfl, HP.out⟩
  · go_wp2
    go_ret
    exact ⟨rfl, HP.out⟩
end Go.Proofs.YtmimnaaofpkndaaDoor.Hp
