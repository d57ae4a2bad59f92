/- HrN: several texts in one. -/
import Derived.Test.YtmimnaaofpkndaaDoorHrL
import Derived.Test.YtmimnaaofpkndaaDoorHpL
/- HeapRuns: keys: rows that hold the same are the same. -/
set_option linter.unusedVariables false
set_option linter.unusedSimpArgs false
namespace Go.Proofs.YtmimnaaofpkndaaDoor.Hp
open Go.RowKit Go.Proofs.YtmimnaaofpkndaaDoor Go.Shelf Go.Sort
attribute [local go_sem] Oper.semAt_some
set_option maxRecDepth 100000 in
set_option maxHeartbeats 8000000 in
theorem same_keys {w : World} {B B' : Nat} {va vb : Value} {L : List K3} (ha : w.ownsRow B 34 3 va L.length (valsC L)) (hb : w.ownsRow B' 34 3 vb L.length (valsC L)) (hL : L.length ≤ 1000000) :
    Calls Tryd.prog 35 #[va, vb] w fun e w' => e = .returned (.bool true) ∧ Below w.heap.size w w' := by
  obtain ⟨n, hn⟩ : ∃ n, L.length = n := ⟨_, rfl⟩
  rw [hn] at ha hb hL
  obtain ⟨aa, acap, rfl, haa⟩ := own_shape ha
  obtain ⟨ab, bcap, rfl, hab⟩ := own_shape hb
  have t0 : ((n : Int) != (n : Int)) = false := by simp
  have H := Lib.hid (And.intro ha (And.intro hb (And.intro hn (And.intro haa hab))))
  clear ha hb haa hab hn
  go_enter Tryd.func35, Tryd.ntmps35
  go_wp2_with fail
  go_loopw [13] (fun v wr => ∃ i : Nat, i ≤ n ∧ v = .int .i64 (i : Int) ∧ Hid (Below w.heap.size w wr)) (fun v _ => n - (intOf v).toNat)
  case atStart => exact ⟨0, Nat.zero_le _, rfl, Lib.hid (Below.refl _ _)⟩
  case round =>
    obtain ⟨i, hi, rfl, HB⟩ := hrel
    by_cases hlt : i < n
    · have t1 : decide ((i : Int) < (n : Int)) = true := by rw [decide_eq_true_eq]; omega
      have ak : IntKind.i64.wrap ((i : Int) + 1) = ((i + 1 : Nat) : Int) := by rw [IntWalk.i64_in _ (by omega)]; rfl
      obtain ⟨ha, hb, hn, haa, hab⟩ := H.out
      obtain ⟨g, rfl⟩ := haa (by omega)
      obtain ⟨h, rfl⟩ := hab (by omega)
      obtain ⟨x, hx⟩ : ∃ x, L[i]? = some x := ⟨_, List.getElem?_eq_getElem (by omega)⟩
      have hea := fun j (hj : j < 3) => (HB.out.cell (p := ⟨g, i * 3 + j, none⟩) (ha.lt g rfl).2).trans ((ha.cellAt (i * 3 + j) (by omega)).trans (valsC_get L i j x hx hj))
      have heb := fun j (hj : j < 3) => (HB.out.cell (p := ⟨h, i * 3 + j, none⟩) (hb.lt h rfl).2).trans ((hb.cellAt (i * 3 + j) (by omega)).trans (valsC_get L i j x hx hj))
      obtain ⟨x1, x2, x3⟩ := x
      have c0 : wr.cell? ⟨g, i * 3, none⟩ = some (.int .i64 x1) := hea 0 (by decide)
      have c1 : wr.cell? ⟨g, i * 3 + 1, none⟩ = some (.int .i64 x2) := hea 1 (by decide)
      have c2 : wr.cell? ⟨g, i * 3 + 2, none⟩ = some (.string x3) := hea 2 (by decide)
      have d0 : wr.cell? ⟨h, i * 3, none⟩ = some (.int .i64 x1) := heb 0 (by decide)
      have d1 : wr.cell? ⟨h, i * 3 + 1, none⟩ = some (.int .i64 x2) := heb 1 (by decide)
      have d2 : wr.cell? ⟨h, i * 3 + 2, none⟩ = some (.string x3) := heb 2 (by decide)
      have s0 : (x1 == x1) = true := by simp
      have s1 : (x2 == x2) = true := by simp
      have s2 : (x3.toList == x3.toList) = true := by simp
      have z0 : (0 : Int) ≤ (i : Int) := by omega
      have z1 : (i : Int) < (n : Int) := by omega
      have HF := Lib.hid (fun m => below_drw HB.out m)
      clear ha hb hn haa hab hea heb hx HB
      go_wp2_with fail
      go_quiet (fail)
      go_wp2_with fail
      go_roundw
      case rel => exact ⟨i + 1, by omega, rfl, Lib.hid (HF.out _)⟩
      case measure => simp only [intOf]; omega
    · obtain rfl : i = n := by omega
      have t1 : decide ((i : Int) < (i : Int)) = false := by simp
      go_wp2
      go_ret
      exact ⟨rfl, HB.out⟩
end Go.Proofs.YtmimnaaofpkndaaDoor.Hp

/- HeapRuns: the law's key of a number. -/
set_option linter.unusedVariables false
set_option linter.unusedSimpArgs false
namespace Go.Proofs.YtmimnaaofpkndaaDoor.Hp
open Go.RowKit Go.Proofs.YtmimnaaofpkndaaDoor Go.Shelf Go.Sort
attribute [local go_sem] Oper.semAt_some
set_option maxRecDepth 100000 in
set_option maxHeartbeats 8000000 in
theorem key_sym (n : Int) (w : World) (j : Nat) (hj : j < 8) (h0 : bits .and .i64 n 3 = 0) (h7 : bits .and .i64 (n / 4) 7 = (j : Int)) : Calls Tryd.prog 57 #[.int .i64 n] w fun e w' => e = .returned (VK ((8, 1000 + (j : Int), ⟨#[]⟩) : K3)) ∧ Below w.heap.size w w' := by
  have b0 : Below w.heap.size w (w.alloc (.cells #[.int .i64 0, .int .i64 0, .string ⟨#[]⟩] 34)) := (Below.refl _ _).alloc (Nat.le_refl _) _
  have kb := Blk.new w 34 #[.int .i64 0, .int .i64 0, .string ⟨#[]⟩]
  have hv := fun W => vsymbol_any (1000 + (j : Int)) W
  obtain ⟨⟨c1, c2, c3⟩, hc⟩ : ∃ k : K3, ((8, 1000 + (j : Int), ⟨#[]⟩) : K3) = k := ⟨_, rfl⟩
  have hv2 : ∀ W, Calls Tryd.prog 46 #[.int .i64 (1000 + (j : Int))] W fun e w' => e = .returned (VS c1 c2 c3) ∧ Below W.heap.size W w' := fun W => (hv W).mono fun e w' h => ⟨by rw [h.1]; cases hc; rfl, h.2⟩
  have hw : wrap64 (1000 + (j : Int)) = 1000 + (j : Int) := IntWalk.wrap64_in _ (by omega)
  have hk : ((8, 1000 + (j : Int), ⟨#[]⟩) : K3) = (c1, c2, c3) := hc
  rw [hk]
  have HV := Lib.hid hv2
  have HB := Lib.hid (And.intro b0 kb)
  clear hk hv2 b0 kb hc hv
  go_enter Tryd.func57, Tryd.ntmps57
  go_wp2_with fail
  refine (HV.out _).mono ?_
  rintro e w2 ⟨rfl, b2⟩
  have hb2 := HB.out.1.trans (b2.mono HB.out.1.size)
  have kb2 := HB.out.2.below b2 HB.out.2.lt
  have y0 : w2.cell? ⟨w.heap.size, 0, none⟩ = some (.int .i64 0) := by rw [kb2.cell]; rfl
  have y1 : w2.cell? ⟨w.heap.size, 1, none⟩ = some (.int .i64 0) := by rw [kb2.cell]; rfl
  have y2 : w2.cell? ⟨w.heap.size, 2, none⟩ = some (.string ⟨#[]⟩) := by rw [kb2.cell]; rfl
  have q0 := kb2.frozen 0
  have q1 := kb2.frozen 1
  have q2 := kb2.frozen 2
  have lr := kb2.lt
  have HB3 := Lib.hid hb2
  clear hb2 kb2 b2 HB HV
  go_wp2
  refine bodyPost_ret (v := VS c1 c2 c3) (by simp [results, Tryd.results57, go_sem, y0, y1, y2, q0, q1, q2, lr]) rfl ⟨rfl, ?_⟩
  exact ((HB3.out.setCell (p := ⟨w.heap.size, 0, none⟩) (by simp) _).setCell (p := ⟨w.heap.size, 1, none⟩) (by simp) _).setCell (p := ⟨w.heap.size, 2, none⟩) (by simp) _
set_option maxRecDepth 100000 in
set_option maxHeartbeats 8000000 in
theorem key_txt0 (n : Int) (w : World) (h0 : bits .and .i64 n 3 = 1) (h7 : bits .and .i64 (n / 4) 3 = 0) : Calls Tryd.prog 57 #[.int .i64 n] w fun e w' => e = .returned (VK (keyL [97])) ∧ Below w.heap.size w w' := by
  have b0 : Below w.heap.size w (w.alloc (.cells #[.int .i64 0, .int .i64 0, .string ⟨#[]⟩] 34)) := (Below.refl _ _).alloc (Nat.le_refl _) _
  have kb := Blk.new w 34 #[.int .i64 0, .int .i64 0, .string ⟨#[]⟩]
  obtain ⟨⟨c1, c2, c3⟩, hc⟩ : ∃ k : K3, keyL [97] = k := ⟨_, rfl⟩
  have hv2 : ∀ W, Calls Tryd.prog 13 #[.string ⟨#[97]⟩] W fun e w' => e = .returned (VS c1 c2 c3) ∧ Below W.heap.size W w' := fun W => by
    have := keyL_any [97] (by decide) W
    rw [hc] at this
    exact this
  have hk : (keyL [97]) = (c1, c2, c3) := hc
  rw [hk]
  have HV := Lib.hid hv2
  have HB := Lib.hid (And.intro b0 kb)
  clear hk hv2 b0 kb hc
  go_enter Tryd.func57, Tryd.ntmps57
  go_wp2_with fail
  refine (HV.out _).mono ?_
  rintro e w2 ⟨rfl, b2⟩
  have b1 := HB.out.1.trans ((((Below.refl (w.alloc (.cells #[.int .i64 0, .int .i64 0, .string ⟨#[]⟩] 34)).heap.size (w.alloc (.cells #[.int .i64 0, .int .i64 0, .string ⟨#[]⟩] 34))).alloc (Nat.le_refl _) (.cells #[.string ⟨#[97]⟩, .string ⟨#[98]⟩, .string ⟨#[48, 49]⟩, .string ⟨#[120, 32, 121]⟩] 9))).mono HB.out.1.size)
  have kb1 := HB.out.2.alloc (.cells #[.string ⟨#[97]⟩, .string ⟨#[98]⟩, .string ⟨#[48, 49]⟩, .string ⟨#[120, 32, 121]⟩] 9)
  have hb2 := b1.trans (b2.mono b1.size)
  have kb2 := kb1.below b2 kb1.lt
  have y0 : w2.cell? ⟨w.heap.size, 0, none⟩ = some (.int .i64 0) := by rw [kb2.cell]; rfl
  have y1 : w2.cell? ⟨w.heap.size, 1, none⟩ = some (.int .i64 0) := by rw [kb2.cell]; rfl
  have y2 : w2.cell? ⟨w.heap.size, 2, none⟩ = some (.string ⟨#[]⟩) := by rw [kb2.cell]; rfl
  have q0 := kb2.frozen 0
  have q1 := kb2.frozen 1
  have q2 := kb2.frozen 2
  have lr := kb2.lt
  have HB3 := Lib.hid hb2
  clear hb2 kb2 b2 HB HV b1 kb1
  go_wp2
  refine bodyPost_ret (v := VS c1 c2 c3) (by simp [results, Tryd.results57, go_sem, y0, y1, y2, q0, q1, q2, lr]) rfl ⟨rfl, ?_⟩
  exact ((HB3.out.setCell (p := ⟨w.heap.size, 0, none⟩) (by simp) _).setCell (p := ⟨w.heap.size, 1, none⟩) (by simp) _).setCell (p := ⟨w.heap.size, 2, none⟩) (by simp) _
set_option maxRecDepth 100000 in
set_option maxHeartbeats 8000000 in
theorem key_txt1 (n : Int) (w : World) (h0 : bits .and .i64 n 3 = 1) (h7 : bits .and .i64 (n / 4) 3 = 1) : Calls Tryd.prog 57 #[.int .i64 n] w fun e w' => e = .returned (VK (keyL [98])) ∧ Below w.heap.size w w' := by
  have b0 : Below w.heap.size w (w.alloc (.cells #[.int .i64 0, .int .i64 0, .string ⟨#[]⟩] 34)) := (Below.refl _ _).alloc (Nat.le_refl _) _
  have kb := Blk.new w 34 #[.int .i64 0, .int .i64 0, .string ⟨#[]⟩]
  obtain ⟨⟨c1, c2, c3⟩, hc⟩ : ∃ k : K3, keyL [98] = k := ⟨_, rfl⟩
  have hv2 : ∀ W, Calls Tryd.prog 13 #[.string ⟨#[98]⟩] W fun e w' => e = .returned (VS c1 c2 c3) ∧ Below W.heap.size W w' := fun W => by
    have := keyL_any [98] (by decide) W
    rw [hc] at this
    exact this
  have hk : (keyL [98]) = (c1, c2, c3) := hc
  rw [hk]
  have HV := Lib.hid hv2
  have HB := Lib.hid (And.intro b0 kb)
  clear hk hv2 b0 kb hc
  go_enter Tryd.func57, Tryd.ntmps57
  go_wp2_with fail
  refine (HV.out _).mono ?_
  rintro e w2 ⟨rfl, b2⟩
  have b1 := HB.out.1.trans ((((Below.refl (w.alloc (.cells #[.int .i64 0, .int .i64 0, .string ⟨#[]⟩] 34)).heap.size (w.alloc (.cells #[.int .i64 0, .int .i64 0, .string ⟨#[]⟩] 34))).alloc (Nat.le_refl _) (.cells #[.string ⟨#[97]⟩, .string ⟨#[98]⟩, .string ⟨#[48, 49]⟩, .string ⟨#[120, 32, 121]⟩] 9))).mono HB.out.1.size)
  have kb1 := HB.out.2.alloc (.cells #[.string ⟨#[97]⟩, .string ⟨#[98]⟩, .string ⟨#[48, 49]⟩, .string ⟨#[120, 32, 121]⟩] 9)
  have hb2 := b1.trans (b2.mono b1.size)
  have kb2 := kb1.below b2 kb1.lt
  have y0 : w2.cell? ⟨w.heap.size, 0, none⟩ = some (.int .i64 0) := by rw [kb2.cell]; rfl
  have y1 : w2.cell? ⟨w.heap.size, 1, none⟩ = some (.int .i64 0) := by rw [kb2.cell]; rfl
  have y2 : w2.cell? ⟨w.heap.size, 2, none⟩ = some (.string ⟨#[]⟩) := by rw [kb2.cell]; rfl
  have q0 := kb2.frozen 0
  have q1 := kb2.frozen 1
  have q2 := kb2.frozen 2
  have lr := kb2.lt
  have HB3 := Lib.hid hb2
  clear hb2 kb2 b2 HB HV b1 kb1
  go_wp2
  refine bodyPost_ret (v := VS c1 c2 c3) (by simp [results, Tryd.results57, go_sem, y0, y1, y2, q0, q1, q2, lr]) rfl ⟨rfl, ?_⟩
  exact ((HB3.out.setCell (p := ⟨w.heap.size, 0, none⟩) (by simp) _).setCell (p := ⟨w.heap.size, 1, none⟩) (by simp) _).setCell (p := ⟨w.heap.size, 2, none⟩) (by simp) _
set_option maxRecDepth 100000 in
set_option maxHeartbeats 8000000 in
theorem key_txt2 (n : Int) (w : World) (h0 : bits .and .i64 n 3 = 1) (h7 : bits .and .i64 (n / 4) 3 = 2) : Calls Tryd.prog 57 #[.int .i64 n] w fun e w' => e = .returned (VK (keyL [48, 49])) ∧ Below w.heap.size w w' := by
  have b0 : Below w.heap.size w (w.alloc (.cells #[.int .i64 0, .int .i64 0, .string ⟨#[]⟩] 34)) := (Below.refl _ _).alloc (Nat.le_refl _) _
  have kb := Blk.new w 34 #[.int .i64 0, .int .i64 0, .string ⟨#[]⟩]
  obtain ⟨⟨c1, c2, c3⟩, hc⟩ : ∃ k : K3, keyL [48, 49] = k := ⟨_, rfl⟩
  have hv2 : ∀ W, Calls Tryd.prog 13 #[.string ⟨#[48, 49]⟩] W fun e w' => e = .returned (VS c1 c2 c3) ∧ Below W.heap.size W w' := fun W => by
    have := keyL_any [48, 49] (by decide) W
    rw [hc] at this
    exact this
  have hk : (keyL [48, 49]) = (c1, c2, c3) := hc
  rw [hk]
  have HV := Lib.hid hv2
  have HB := Lib.hid (And.intro b0 kb)
  clear hk hv2 b0 kb hc
  go_enter Tryd.func57, Tryd.ntmps57
  go_wp2_with fail
  refine (HV.out _).mono ?_
  rintro e w2 ⟨rfl, b2⟩
  have b1 := HB.out.1.trans ((((Below.refl (w.alloc (.cells #[.int .i64 0, .int .i64 0, .string ⟨#[]⟩] 34)).heap.size (w.alloc (.cells #[.int .i64 0, .int .i64 0, .string ⟨#[]⟩] 34))).alloc (Nat.le_refl _) (.cells #[.string ⟨#[97]⟩, .string ⟨#[98]⟩, .string ⟨#[48, 49]⟩, .string ⟨#[120, 32, 121]⟩] 9))).mono HB.out.1.size)
  have kb1 := HB.out.2.alloc (.cells #[.string ⟨#[97]⟩, .string ⟨#[98]⟩, .string ⟨#[48, 49]⟩, .string ⟨#[120, 32, 121]⟩] 9)
  have hb2 := b1.trans (b2.mono b1.size)
  have kb2 := kb1.below b2 kb1.lt
  have y0 : w2.cell? ⟨w.heap.size, 0, none⟩ = some (.int .i64 0) := by rw [kb2.cell]; rfl
  have y1 : w2.cell? ⟨w.heap.size, 1, none⟩ = some (.int .i64 0) := by rw [kb2.cell]; rfl
  have y2 : w2.cell? ⟨w.heap.size, 2, none⟩ = some (.string ⟨#[]⟩) := by rw [kb2.cell]; rfl
  have q0 := kb2.frozen 0
  have q1 := kb2.frozen 1
  have q2 := kb2.frozen 2
  have lr := kb2.lt
  have HB3 := Lib.hid hb2
  clear hb2 kb2 b2 HB HV b1 kb1
  go_wp2
  refine bodyPost_ret (v := VS c1 c2 c3) (by simp [results, Tryd.results57, go_sem, y0, y1, y2, q0, q1, q2, lr]) rfl ⟨rfl, ?_⟩
  exact ((HB3.out.setCell (p := ⟨w.heap.size, 0, none⟩) (by simp) _).setCell (p := ⟨w.heap.size, 1, none⟩) (by simp) _).setCell (p := ⟨w.heap.size, 2, none⟩) (by simp) _
set_option maxRecDepth 100000 in
set_option maxHeartbeats 8000000 in
theorem key_txt3 (n : Int) (w : World) (h0 : bits .and .i64 n 3 = 1) (h7 : bits .and .i64 (n / 4) 3 = 3) : Calls Tryd.prog 57 #[.int .i64 n] w fun e w' => e = .returned (VK (keyL [120, 32, 121])) ∧ Below w.heap.size w w' := by
  have b0 : Below w.heap.size w (w.alloc (.cells #[.int .i64 0, .int .i64 0, .string ⟨#[]⟩] 34)) := (Below.refl _ _).alloc (Nat.le_refl _) _
  have kb := Blk.new w 34 #[.int .i64 0, .int .i64 0, .string ⟨#[]⟩]
  obtain ⟨⟨c1, c2, c3⟩, hc⟩ : ∃ k : K3, keyL [120, 32, 121] = k := ⟨_, rfl⟩
  have hv2 : ∀ W, Calls Tryd.prog 13 #[.string ⟨#[120, 32, 121]⟩] W fun e w' => e = .returned (VS c1 c2 c3) ∧ Below W.heap.size W w' := fun W => by
    have := keyL_any [120, 32, 121] (by decide) W
    rw [hc] at this
    exact this
  have hk : (keyL [120, 32, 121]) = (c1, c2, c3) := hc
  rw [hk]
  have HV := Lib.hid hv2
  have HB := Lib.hid (And.intro b0 kb)
  clear hk hv2 b0 kb hc
  go_enter Tryd.func57, Tryd.ntmps57
  go_wp2_with fail
  refine (HV.out _).mono ?_
  rintro e w2 ⟨rfl, b2⟩
  have b1 := HB.out.1.trans ((((Below.refl (w.alloc (.cells #[.int .i64 0, .int .i64 0, .string ⟨#[]⟩] 34)).heap.size (w.alloc (.cells #[.int .i64 0, .int .i64 0, .string ⟨#[]⟩] 34))).alloc (Nat.le_refl _) (.cells #[.string ⟨#[97]⟩, .string ⟨#[98]⟩, .string ⟨#[48, 49]⟩, .string ⟨#[120, 32, 121]⟩] 9))).mono HB.out.1.size)
  have kb1 := HB.out.2.alloc (.cells #[.string ⟨#[97]⟩, .string ⟨#[98]⟩, .string ⟨#[48, 49]⟩, .string ⟨#[120, 32, 121]⟩] 9)
  have hb2 := b1.trans (b2.mono b1.size)
  have kb2 := kb1.below b2 kb1.lt
  have y0 : w2.cell? ⟨w.heap.size, 0, none⟩ = some (.int .i64 0) := by rw [kb2.cell]; rfl
  have y1 : w2.cell? ⟨w.heap.size, 1, none⟩ = some (.int .i64 0) := by rw [kb2.cell]; rfl
  have y2 : w2.cell? ⟨w.heap.size, 2, none⟩ = some (.string ⟨#[]⟩) := by rw [kb2.cell]; rfl
  have q0 := kb2.frozen 0
  have q1 := kb2.frozen 1
  have q2 := kb2.frozen 2
  have lr := kb2.lt
  have HB3 := Lib.hid hb2
  clear hb2 kb2 b2 HB HV b1 kb1
  go_wp2
  refine bodyPost_ret (v := VS c1 c2 c3) (by simp [results, Tryd.results57, go_sem, y0, y1, y2, q0, q1, q2, lr]) rfl ⟨rfl, ?_⟩
  exact ((HB3.out.setCell (p := ⟨w.heap.size, 0, none⟩) (by simp) _).setCell (p := ⟨w.heap.size, 1, none⟩) (by simp) _).setCell (p := ⟨w.heap.size, 2, none⟩) (by simp) _
set_option maxRecDepth 100000 in
set_option maxHeartbeats 8000000 in
theorem key_len (n : Int) (w : World) (r : Int) (hr0 : (r == 0) = false) (hr1 : (r == 1) = false) (h0 : bits .and .i64 n 3 = r) (h7 : bits .and .i64 (n / 4) 7 = 7) : Calls Tryd.prog 57 #[.int .i64 n] w fun e w' => e = .returned (VK lenK) ∧ Below w.heap.size w w' := by
  have b0 : Below w.heap.size w (w.alloc (.cells #[.int .i64 0, .int .i64 0, .string ⟨#[]⟩] 34)) := (Below.refl _ _).alloc (Nat.le_refl _) _
  have kb := Blk.new w 34 #[.int .i64 0, .int .i64 0, .string ⟨#[]⟩]
  obtain ⟨⟨c1, c2, c3⟩, hc⟩ : ∃ k : K3, keyL [108, 101, 110, 103, 116, 104] = k := ⟨_, rfl⟩
  have hv2 : ∀ W, Calls Tryd.prog 13 #[.string ⟨#[108, 101, 110, 103, 116, 104]⟩] W fun e w' => e = .returned (VS c1 c2 c3) ∧ Below W.heap.size W w' := fun W => by
    have := keyL_any [108, 101, 110, 103, 116, 104] (by decide) W
    rw [hc] at this
    exact this
  have hk : lenK = (c1, c2, c3) := keyL_len.symm.trans hc
  rw [hk]
  have HV := Lib.hid hv2
  have HB := Lib.hid (And.intro b0 kb)
  clear hk hv2 b0 kb hc
  go_enter Tryd.func57, Tryd.ntmps57
  go_wp2_with fail
  refine (HV.out _).mono ?_
  rintro e w2 ⟨rfl, b2⟩
  have hb2 := HB.out.1.trans (b2.mono HB.out.1.size)
  have kb2 := HB.out.2.below b2 HB.out.2.lt
  have y0 : w2.cell? ⟨w.heap.size, 0, none⟩ = some (.int .i64 0) := by rw [kb2.cell]; rfl
  have y1 : w2.cell? ⟨w.heap.size, 1, none⟩ = some (.int .i64 0) := by rw [kb2.cell]; rfl
  have y2 : w2.cell? ⟨w.heap.size, 2, none⟩ = some (.string ⟨#[]⟩) := by rw [kb2.cell]; rfl
  have q0 := kb2.frozen 0
  have q1 := kb2.frozen 1
  have q2 := kb2.frozen 2
  have lr := kb2.lt
  have HB3 := Lib.hid hb2
  clear hb2 kb2 b2 HB HV
  go_wp2
  refine bodyPost_ret (v := VS c1 c2 c3) (by simp [results, Tryd.results57, go_sem, y0, y1, y2, q0, q1, q2, lr]) rfl ⟨rfl, ?_⟩
  exact ((HB3.out.setCell (p := ⟨w.heap.size, 0, none⟩) (by simp) _).setCell (p := ⟨w.heap.size, 1, none⟩) (by simp) _).setCell (p := ⟨w.heap.size, 2, none⟩) (by simp) _
set_option maxRecDepth 100000 in
set_option maxHeartbeats 8000000 in
theorem key_plc0 (n : Int) (w : World) (r : Int) (hr0 : (r == 0) = false) (hr1 : (r == 1) = false) (h0 : bits .and .i64 n 3 = r) (h7 : bits .and .i64 (n / 4) 7 = 0) : Calls Tryd.prog 57 #[.int .i64 n] w fun e w' => e = .returned (VK (keyL [48])) ∧ Below w.heap.size w w' := by
  have b0 : Below w.heap.size w (w.alloc (.cells #[.int .i64 0, .int .i64 0, .string ⟨#[]⟩] 34)) := (Below.refl _ _).alloc (Nat.le_refl _) _
  have kb := Blk.new w 34 #[.int .i64 0, .int .i64 0, .string ⟨#[]⟩]
  obtain ⟨⟨c1, c2, c3⟩, hc⟩ : ∃ k : K3, keyL [48] = k := ⟨_, rfl⟩
  have hv2 : ∀ W, Calls Tryd.prog 13 #[.string ⟨#[48]⟩] W fun e w' => e = .returned (VS c1 c2 c3) ∧ Below W.heap.size W w' := fun W => by
    have := keyL_any [48] (by decide) W
    rw [hc] at this
    exact this
  have hk : (keyL [48]) = (c1, c2, c3) := hc
  rw [hk]
  have HV := Lib.hid hv2
  have HB := Lib.hid (And.intro b0 kb)
  clear hk hv2 b0 kb hc
  go_enter Tryd.func57, Tryd.ntmps57
  go_wp2_with fail
  refine (HV.out _).mono ?_
  rintro e w2 ⟨rfl, b2⟩
  have b1 := HB.out.1.trans ((((Below.refl (w.alloc (.cells #[.int .i64 0, .int .i64 0, .string ⟨#[]⟩] 34)).heap.size (w.alloc (.cells #[.int .i64 0, .int .i64 0, .string ⟨#[]⟩] 34))).alloc (Nat.le_refl _) (.cells #[.string ⟨#[48]⟩, .string ⟨#[49]⟩, .string ⟨#[50]⟩, .string ⟨#[51]⟩, .string ⟨#[53]⟩, .string ⟨#[55]⟩, .string ⟨#[49, 50]⟩] 9))).mono HB.out.1.size)
  have kb1 := HB.out.2.alloc (.cells #[.string ⟨#[48]⟩, .string ⟨#[49]⟩, .string ⟨#[50]⟩, .string ⟨#[51]⟩, .string ⟨#[53]⟩, .string ⟨#[55]⟩, .string ⟨#[49, 50]⟩] 9)
  have hb2 := b1.trans (b2.mono b1.size)
  have kb2 := kb1.below b2 kb1.lt
  have y0 : w2.cell? ⟨w.heap.size, 0, none⟩ = some (.int .i64 0) := by rw [kb2.cell]; rfl
  have y1 : w2.cell? ⟨w.heap.size, 1, none⟩ = some (.int .i64 0) := by rw [kb2.cell]; rfl
  have y2 : w2.cell? ⟨w.heap.size, 2, none⟩ = some (.string ⟨#[]⟩) := by rw [kb2.cell]; rfl
  have q0 := kb2.frozen 0
  have q1 := kb2.frozen 1
  have q2 := kb2.frozen 2
  have lr := kb2.lt
  have HB3 := Lib.hid hb2
  clear hb2 kb2 b2 HB HV b1 kb1
  go_wp2
  refine bodyPost_ret (v := VS c1 c2 c3) (by simp [results, Tryd.results57, go_sem, y0, y1, y2, q0, q1, q2, lr]) rfl ⟨rfl, ?_⟩
  exact ((HB3.out.setCell (p := ⟨w.heap.size, 0, none⟩) (by simp) _).setCell (p := ⟨w.heap.size, 1, none⟩) (by simp) _).setCell (p := ⟨w.heap.size, 2, none⟩) (by simp) _
set_option maxRecDepth 100000 in
set_option maxHeartbeats 8000000 in
theorem key_plc1 (n : Int) (w : World) (r : Int) (hr0 : (r == 0) = false) (hr1 : (r == 1) = false) (h0 : bits .and .i64 n 3 = r) (h7 : bits .and .i64 (n / 4) 7 = 1) : Calls Tryd.prog 57 #[.int .i64 n] w fun e w' => e = .returned (VK (keyL [49])) ∧ Below w.heap.size w w' := by
  have b0 : Below w.heap.size w (w.alloc (.cells #[.int .i64 0, .int .i64 0, .string ⟨#[]⟩] 34)) := (Below.refl _ _).alloc (Nat.le_refl _) _
  have kb := Blk.new w 34 #[.int .i64 0, .int .i64 0, .string ⟨#[]⟩]
  obtain ⟨⟨c1, c2, c3⟩, hc⟩ : ∃ k : K3, keyL [49] = k := ⟨_, rfl⟩
  have hv2 : ∀ W, Calls Tryd.prog 13 #[.string ⟨#[49]⟩] W fun e w' => e = .returned (VS c1 c2 c3) ∧ Below W.heap.size W w' := fun W => by
    have := keyL_any [49] (by decide) W
    rw [hc] at this
    exact this
  have hk : (keyL [49]) = (c1, c2, c3) := hc
  rw [hk]
  have HV := Lib.hid hv2
  have HB := Lib.hid (And.intro b0 kb)
  clear hk hv2 b0 kb hc
  go_enter Tryd.func57, Tryd.ntmps57
  go_wp2_with fail
  refine (HV.out _).mono ?_
  rintro e w2 ⟨rfl, b2⟩
  have b1 := HB.out.1.trans ((((Below.refl (w.alloc (.cells #[.int .i64 0, .int .i64 0, .string ⟨#[]⟩] 34)).heap.size (w.alloc (.cells #[.int .i64 0, .int .i64 0, .string ⟨#[]⟩] 34))).alloc (Nat.le_refl _) (.cells #[.string ⟨#[48]⟩, .string ⟨#[49]⟩, .string ⟨#[50]⟩, .string ⟨#[51]⟩, .string ⟨#[53]⟩, .string ⟨#[55]⟩, .string ⟨#[49, 50]⟩] 9))).mono HB.out.1.size)
  have kb1 := HB.out.2.alloc (.cells #[.string ⟨#[48]⟩, .string ⟨#[49]⟩, .string ⟨#[50]⟩, .string ⟨#[51]⟩, .string ⟨#[53]⟩, .string ⟨#[55]⟩, .string ⟨#[49, 50]⟩] 9)
  have hb2 := b1.trans (b2.mono b1.size)
  have kb2 := kb1.below b2 kb1.lt
  have y0 : w2.cell? ⟨w.heap.size, 0, none⟩ = some (.int .i64 0) := by rw [kb2.cell]; rfl
  have y1 : w2.cell? ⟨w.heap.size, 1, none⟩ = some (.int .i64 0) := by rw [kb2.cell]; rfl
  have y2 : w2.cell? ⟨w.heap.size, 2, none⟩ = some (.string ⟨#[]⟩) := by rw [kb2.cell]; rfl
  have q0 := kb2.frozen 0
  have q1 := kb2.frozen 1
  have q2 := kb2.frozen 2
  have lr := kb2.lt
  have HB3 := Lib.hid hb2
  clear hb2 kb2 b2 HB HV b1 kb1
  go_wp2
  refine bodyPost_ret (v := VS c1 c2 c3) (by simp [results, Tryd.results57, go_sem, y0, y1, y2, q0, q1, q2, lr]) rfl ⟨rfl, ?_⟩
  exact ((HB3.out.setCell (p := ⟨w.heap.size, 0, none⟩) (by simp) _).setCell (p := ⟨w.heap.size, 1, none⟩) (by simp) _).setCell (p := ⟨w.heap.size, 2, none⟩) (by simp) _
set_option maxRecDepth 100000 in
set_option maxHeartbeats 8000000 in
theorem key_plc2 (n : Int) (w : World) (r : Int) (hr0 : (r == 0) = false) (hr1 : (r == 1) = false) (h0 : bits .and .i64 n 3 = r) (h7 : bits .and .i64 (n / 4) 7 = 2) : Calls Tryd.prog 57 #[.int .i64 n] w fun e w' => e = .returned (VK (keyL [50])) ∧ Below w.heap.size w w' := by
  have b0 : Below w.heap.size w (w.alloc (.cells #[.int .i64 0, .int .i64 0, .string ⟨#[]⟩] 34)) := (Below.refl _ _).alloc (Nat.le_refl _) _
  have kb := Blk.new w 34 #[.int .i64 0, .int .i64 0, .string ⟨#[]⟩]
  obtain ⟨⟨c1, c2, c3⟩, hc⟩ : ∃ k : K3, keyL [50] = k := ⟨_, rfl⟩
  have hv2 : ∀ W, Calls Tryd.prog 13 #[.string ⟨#[50]⟩] W fun e w' => e = .returned (VS c1 c2 c3) ∧ Below W.heap.size W w' := fun W => by
    have := keyL_any [50] (by decide) W
    rw [hc] at this
    exact this
  have hk : (keyL [50]) = (c1, c2, c3) := hc
  rw [hk]
  have HV := Lib.hid hv2
  have HB := Lib.hid (And.intro b0 kb)
  clear hk hv2 b0 kb hc
  go_enter Tryd.func57, Tryd.ntmps57
  go_wp2_with fail
  refine (HV.out _).mono ?_
  rintro e w2 ⟨rfl, b2⟩
  have b1 := HB.out.1.trans ((((Below.refl (w.alloc (.cells #[.int .i64 0, .int .i64 0, .string ⟨#[]⟩] 34)).heap.size (w.alloc (.cells #[.int .i64 0, .int .i64 0, .string ⟨#[]⟩] 34))).alloc (Nat.le_refl _) (.cells #[.string ⟨#[48]⟩, .string ⟨#[49]⟩, .string ⟨#[50]⟩, .string ⟨#[51]⟩, .string ⟨#[53]⟩, .string ⟨#[55]⟩, .string ⟨#[49, 50]⟩] 9))).mono HB.out.1.size)
  have kb1 := HB.out.2.alloc (.cells #[.string ⟨#[48]⟩, .string ⟨#[49]⟩, .string ⟨#[50]⟩, .string ⟨#[51]⟩, .string ⟨#[53]⟩, .string ⟨#[55]⟩, .string ⟨#[49, 50]⟩] 9)
  have hb2 := b1.trans (b2.mono b1.size)
  have kb2 := kb1.below b2 kb1.lt
  have y0 : w2.cell? ⟨w.heap.size, 0, none⟩ = some (.int .i64 0) := by rw [kb2.cell]; rfl
  have y1 : w2.cell? ⟨w.heap.size, 1, none⟩ = some (.int .i64 0) := by rw [kb2.cell]; rfl
  have y2 : w2.cell? ⟨w.heap.size, 2, none⟩ = some (.string ⟨#[]⟩) := by rw [kb2.cell]; rfl
  have q0 := kb2.frozen 0
  have q1 := kb2.frozen 1
  have q2 := kb2.frozen 2
  have lr := kb2.lt
  have HB3 := Lib.hid hb2
  clear hb2 kb2 b2 HB HV b1 kb1
  go_wp2
  refine bodyPost_ret (v := VS c1 c2 c3) (by simp [results, Tryd.results57, go_sem, y0, y1, y2, q0, q1, q2, lr]) rfl ⟨rfl, ?_⟩
  exact ((HB3.out.setCell (p := ⟨w.heap.size, 0, none⟩) (by simp) _).setCell (p := ⟨w.heap.size, 1, none⟩) (by simp) _).setCell (p := ⟨w.heap.size, 2, none⟩) (by simp) _
set_option maxRecDepth 100000 in
set_option maxHeartbeats 8000000 in
theorem key_plc3 (n : Int) (w : World) (r : Int) (hr0 : (r == 0) = false) (hr1 : (r == 1) = false) (h0 : bits .and .i64 n 3 = r) (h7 : bits .and .i64 (n / 4) 7 = 3) : Calls Tryd.prog 57 #[.int .i64 n] w fun e w' => e = .returned (VK (keyL [51])) ∧ Below w.heap.size w w' := by
  have b0 : Below w.heap.size w (w.alloc (.cells #[.int .i64 0, .int .i64 0, .string ⟨#[]⟩] 34)) := (Below.refl _ _).alloc (Nat.le_refl _) _
  have kb := Blk.new w 34 #[.int .i64 0, .int .i64 0, .string ⟨#[]⟩]
  obtain ⟨⟨c1, c2, c3⟩, hc⟩ : ∃ k : K3, keyL [51] = k := ⟨_, rfl⟩
  have hv2 : ∀ W, Calls Tryd.prog 13 #[.string ⟨#[51]⟩] W fun e w' => e = .returned (VS c1 c2 c3) ∧ Below W.heap.size W w' := fun W => by
    have := keyL_any [51] (by decide) W
    rw [hc] at this
    exact this
  have hk : (keyL [51]) = (c1, c2, c3) := hc
  rw [hk]
  have HV := Lib.hid hv2
  have HB := Lib.hid (And.intro b0 kb)
  clear hk hv2 b0 kb hc
  go_enter Tryd.func57, Tryd.ntmps57
  go_wp2_with fail
  refine (HV.out _).mono ?_
  rintro e w2 ⟨rfl, b2⟩
  have b1 := HB.out.1.trans ((((Below.refl (w.alloc (.cells #[.int .i64 0, .int .i64 0, .string ⟨#[]⟩] 34)).heap.size (w.alloc (.cells #[.int .i64 0, .int .i64 0, .string ⟨#[]⟩] 34))).alloc (Nat.le_refl _) (.cells #[.string ⟨#[48]⟩, .string ⟨#[49]⟩, .string ⟨#[50]⟩, .string ⟨#[51]⟩, .string ⟨#[53]⟩, .string ⟨#[55]⟩, .string ⟨#[49, 50]⟩] 9))).mono HB.out.1.size)
  have kb1 := HB.out.2.alloc (.cells #[.string ⟨#[48]⟩, .string ⟨#[49]⟩, .string ⟨#[50]⟩, .string ⟨#[51]⟩, .string ⟨#[53]⟩, .string ⟨#[55]⟩, .string ⟨#[49, 50]⟩] 9)
  have hb2 := b1.trans (b2.mono b1.size)
  have kb2 := kb1.below b2 kb1.lt
  have y0 : w2.cell? ⟨w.heap.size, 0, none⟩ = some (.int .i64 0) := by rw [kb2.cell]; rfl
  have y1 : w2.cell? ⟨w.heap.size, 1, none⟩ = some (.int .i64 0) := by rw [kb2.cell]; rfl
  have y2 : w2.cell? ⟨w.heap.size, 2, none⟩ = some (.string ⟨#[]⟩) := by rw [kb2.cell]; rfl
  have q0 := kb2.frozen 0
  have q1 := kb2.frozen 1
  have q2 := kb2.frozen 2
  have lr := kb2.lt
  have HB3 := Lib.hid hb2
  clear hb2 kb2 b2 HB HV b1 kb1
  go_wp2
  refine bodyPost_ret (v := VS c1 c2 c3) (by simp [results, Tryd.results57, go_sem, y0, y1, y2, q0, q1, q2, lr]) rfl ⟨rfl, ?_⟩
  exact ((HB3.out.setCell (p := ⟨w.heap.size, 0, none⟩) (by simp) _).setCell (p := ⟨w.heap.size, 1, none⟩) (by simp) _).setCell (p := ⟨w.heap.size, 2, none⟩) (by simp) _
set_option maxRecDepth 100000 in
set_option maxHeartbeats 8000000 in
theorem key_plc4 (n : Int) (w : World) (r : Int) (hr0 : (r == 0) = false) (hr1 : (r == 1) = false) (h0 : bits .and .i64 n 3 = r) (h7 : bits .and .i64 (n / 4) 7 = 4) : Calls Tryd.prog 57 #[.int .i64 n] w fun e w' => e = .returned (VK (keyL [53])) ∧ Below w.heap.size w w' := by
  have b0 : Below w.heap.size w (w.alloc (.cells #[.int .i64 0, .int .i64 0, .string ⟨#[]⟩] 34)) := (Below.refl _ _).alloc (Nat.le_refl _) _
  have kb := Blk.new w 34 #[.int .i64 0, .int .i64 0, .string ⟨#[]⟩]
  obtain ⟨⟨c1, c2, c3⟩, hc⟩ : ∃ k : K3, keyL [53] = k := ⟨_, rfl⟩
  have hv2 : ∀ W, Calls Tryd.prog 13 #[.string ⟨#[53]⟩] W fun e w' => e = .returned (VS c1 c2 c3) ∧ Below W.heap.size W w' := fun W => by
    have := keyL_any [53] (by decide) W
    rw [hc] at this
    exact this
  have hk : (keyL [53]) = (c1, c2, c3) := hc
  rw [hk]
  have HV := Lib.hid hv2
  have HB := Lib.hid (And.intro b0 kb)
  clear hk hv2 b0 kb hc
  go_enter Tryd.func57, Tryd.ntmps57
  go_wp2_with fail
  refine (HV.out _).mono ?_
  rintro e w2 ⟨rfl, b2⟩
  have b1 := HB.out.1.trans ((((Below.refl (w.alloc (.cells #[.int .i64 0, .int .i64 0, .string ⟨#[]⟩] 34)).heap.size (w.alloc (.cells #[.int .i64 0, .int .i64 0, .string ⟨#[]⟩] 34))).alloc (Nat.le_refl _) (.cells #[.string ⟨#[48]⟩, .string ⟨#[49]⟩, .string ⟨#[50]⟩, .string ⟨#[51]⟩, .string ⟨#[53]⟩, .string ⟨#[55]⟩, .string ⟨#[49, 50]⟩] 9))).mono HB.out.1.size)
  have kb1 := HB.out.2.alloc (.cells #[.string ⟨#[48]⟩, .string ⟨#[49]⟩, .string ⟨#[50]⟩, .string ⟨#[51]⟩, .string ⟨#[53]⟩, .string ⟨#[55]⟩, .string ⟨#[49, 50]⟩] 9)
  have hb2 := b1.trans (b2.mono b1.size)
  have kb2 := kb1.below b2 kb1.lt
  have y0 : w2.cell? ⟨w.heap.size, 0, none⟩ = some (.int .i64 0) := by rw [kb2.cell]; rfl
  have y1 : w2.cell? ⟨w.heap.size, 1, none⟩ = some (.int .i64 0) := by rw [kb2.cell]; rfl
  have y2 : w2.cell? ⟨w.heap.size, 2, none⟩ = some (.string ⟨#[]⟩) := by rw [kb2.cell]; rfl
  have q0 := kb2.frozen 0
  have q1 := kb2.frozen 1
  have q2 := kb2.frozen 2
  have lr := kb2.lt
  have HB3 := Lib.hid hb2
  clear hb2 kb2 b2 HB HV b1 kb1
  go_wp2
  refine bodyPost_ret (v := VS c1 c2 c3) (by simp [results, Tryd.results57, go_sem, y0, y1, y2, q0, q1, q2, lr]) rfl ⟨rfl, ?_⟩
  exact ((HB3.out.setCell (p := ⟨w.heap.size, 0, none⟩) (by simp) _).setCell (p := ⟨w.heap.size, 1, none⟩) (by simp) _).setCell (p := ⟨w.heap.size, 2, none⟩) (by simp) _
set_option maxRecDepth 100000 in
set_option maxHeartbeats 8000000 in
theorem key_plc5 (n : Int) (w : World) (r : Int) (hr0 : (r == 0) = false) (hr1 : (r == 1) = false) (h0 : bits .and .i64 n 3 = r) (h7 : bits .and .i64 (n / 4) 7 = 5) : Calls Tryd.prog 57 #[.int .i64 n] w fun e w' => e = .returned (VK (keyL [55])) ∧ Below w.heap.size w w' := by
  have b0 : Below w.heap.size w (w.alloc (.cells #[.int .i64 0, .int .i64 0, .string ⟨#[]⟩] 34)) := (Below.refl _ _).alloc (Nat.le_refl _) _
  have kb := Blk.new w 34 #[.int .i64 0, .int .i64 0, .string ⟨#[]⟩]
  obtain ⟨⟨c1, c2, c3⟩, hc⟩ : ∃ k : K3, keyL [55] = k := ⟨_, rfl⟩
  have hv2 : ∀ W, Calls Tryd.prog 13 #[.string ⟨#[55]⟩] W fun e w' => e = .returned (VS c1 c2 c3) ∧ Below W.heap.size W w' := fun W => by
    have := keyL_any [55] (by decide) W
    rw [hc] at this
    exact this
  have hk : (keyL [55]) = (c1, c2, c3) := hc
  rw [hk]
  have HV := Lib.hid hv2
  have HB := Lib.hid (And.intro b0 kb)
  clear hk hv2 b0 kb hc
  go_enter Tryd.func57, Tryd.ntmps57
  go_wp2_with fail
  refine (HV.out _).mono ?_
  rintro e w2 ⟨rfl, b2⟩
  have b1 := HB.out.1.trans ((((Below.refl (w.alloc (.cells #[.int .i64 0, .int .i64 0, .string ⟨#[]⟩] 34)).heap.size (w.alloc (.cells #[.int .i64 0, .int .i64 0, .string ⟨#[]⟩] 34))).alloc (Nat.le_refl _) (.cells #[.string ⟨#[48]⟩, .string ⟨#[49]⟩, .string ⟨#[50]⟩, .string ⟨#[51]⟩, .string ⟨#[53]⟩, .string ⟨#[55]⟩, .string ⟨#[49, 50]⟩] 9))).mono HB.out.1.size)
  have kb1 := HB.out.2.alloc (.cells #[.string ⟨#[48]⟩, .string ⟨#[49]⟩, .string ⟨#[50]⟩, .string ⟨#[51]⟩, .string ⟨#[53]⟩, .string ⟨#[55]⟩, .string ⟨#[49, 50]⟩] 9)
  have hb2 := b1.trans (b2.mono b1.size)
  have kb2 := kb1.below b2 kb1.lt
  have y0 : w2.cell? ⟨w.heap.size, 0, none⟩ = some (.int .i64 0) := by rw [kb2.cell]; rfl
  have y1 : w2.cell? ⟨w.heap.size, 1, none⟩ = some (.int .i64 0) := by rw [kb2.cell]; rfl
  have y2 : w2.cell? ⟨w.heap.size, 2, none⟩ = some (.string ⟨#[]⟩) := by rw [kb2.cell]; rfl
  have q0 := kb2.frozen 0
  have q1 := kb2.frozen 1
  have q2 := kb2.frozen 2
  have lr := kb2.lt
  have HB3 := Lib.hid hb2
  clear hb2 kb2 b2 HB HV b1 kb1
  go_wp2
  refine bodyPost_ret (v := VS c1 c2 c3) (by simp [results, Tryd.results57, go_sem, y0, y1, y2, q0, q1, q2, lr]) rfl ⟨rfl, ?_⟩
  exact ((HB3.out.setCell (p := ⟨w.heap.size, 0, none⟩) (by simp) _).setCell (p := ⟨w.heap.size, 1, none⟩) (by simp) _).setCell (p := ⟨w.heap.size, 2, none⟩) (by simp) _
set_option maxRecDepth 100000 in
set_option maxHeartbeats 8000000 in
theorem key_plc6 (n : Int) (w : World) (r : Int) (hr0 : (r == 0) = false) (hr1 : (r == 1) = false) (h0 : bits .and .i64 n 3 = r) (h7 : bits .and .i64 (n / 4) 7 = 6) : Calls Tryd.prog 57 #[.int .i64 n] w fun e w' => e = .returned (VK (keyL [49, 50])) ∧ Below w.heap.size w w' := by
  have b0 : Below w.heap.size w (w.alloc (.cells #[.int .i64 0, .int .i64 0, .string ⟨#[]⟩] 34)) := (Below.refl _ _).alloc (Nat.le_refl _) _
  have kb := Blk.new w 34 #[.int .i64 0, .int .i64 0, .string ⟨#[]⟩]
  obtain ⟨⟨c1, c2, c3⟩, hc⟩ : ∃ k : K3, keyL [49, 50] = k := ⟨_, rfl⟩
  have hv2 : ∀ W, Calls Tryd.prog 13 #[.string ⟨#[49, 50]⟩] W fun e w' => e = .returned (VS c1 c2 c3) ∧ Below W.heap.size W w' := fun W => by
    have := keyL_any [49, 50] (by decide) W
    rw [hc] at this
    exact this
  have hk : (keyL [49, 50]) = (c1, c2, c3) := hc
  rw [hk]
  have HV := Lib.hid hv2
  have HB := Lib.hid (And.intro b0 kb)
  clear hk hv2 b0 kb hc
  go_enter Tryd.func57, Tryd.ntmps57
  go_wp2_with fail
  refine (HV.out _).mono ?_
  rintro e w2 ⟨rfl, b2⟩
  have b1 := HB.out.1.trans ((((Below.refl (w.alloc (.cells #[.int .i64 0, .int .i64 0, .string ⟨#[]⟩] 34)).heap.size (w.alloc (.cells #[.int .i64 0, .int .i64 0, .string ⟨#[]⟩] 34))).alloc (Nat.le_refl _) (.cells #[.string ⟨#[48]⟩, .string ⟨#[49]⟩, .string ⟨#[50]⟩, .string ⟨#[51]⟩, .string ⟨#[53]⟩, .string ⟨#[55]⟩, .string ⟨#[49, 50]⟩] 9))).mono HB.out.1.size)
  have kb1 := HB.out.2.alloc (.cells #[.string ⟨#[48]⟩, .string ⟨#[49]⟩, .string ⟨#[50]⟩, .string ⟨#[51]⟩, .string ⟨#[53]⟩, .string ⟨#[55]⟩, .string ⟨#[49, 50]⟩] 9)
  have hb2 := b1.trans (b2.mono b1.size)
  have kb2 := kb1.below b2 kb1.lt
  have y0 : w2.cell? ⟨w.heap.size, 0, none⟩ = some (.int .i64 0) := by rw [kb2.cell]; rfl
  have y1 : w2.cell? ⟨w.heap.size, 1, none⟩ = some (.int .i64 0) := by rw [kb2.cell]; rfl
  have y2 : w2.cell? ⟨w.heap.size, 2, none⟩ = some (.string ⟨#[]⟩) := by rw [kb2.cell]; rfl
  have q0 := kb2.frozen 0
  have q1 := kb2.frozen 1
  have q2 := kb2.frozen 2
  have lr := kb2.lt
  have HB3 := Lib.hid hb2
  clear hb2 kb2 b2 HB HV b1 kb1
  go_wp2
  refine bodyPost_ret (v := VS c1 c2 c3) (by simp [results, Tryd.results57, go_sem, y0, y1, y2, q0, q1, q2, lr]) rfl ⟨rfl, ?_⟩
  exact ((HB3.out.setCell (p := ⟨w.heap.size, 0, none⟩) (by simp) _).setCell (p := ⟨w.heap.size, 1, none⟩) (by simp) _).setCell (p := ⟨w.heap.size, 2, none⟩) (by simp) _
theorem key_any (n : Int) (w : World) : ∃ k, KS k ∧ Calls Tryd.prog 57 #[.int .i64 n] w fun e w' => e = .returned (VK k) ∧ Below w.heap.size w w' := by
  obtain ⟨r, hr, h0⟩ := and_to n 3 (by decide)
  obtain ⟨j, hj, h7⟩ := and_to (n / 4) 7 (by decide)
  obtain ⟨i, hi, h3⟩ := and_to (n / 4) 3 (by decide)
  have hd : ∀ d : Nat, d < 10 → keyD d = keyL [UInt8.ofNat (48 + d)] := fun d hd => by unfold keyD; rw [dig_small d hd]
  by_cases r0 : r = 0
  · subst r0
    exact ⟨_, ⟨j, by omega, by unfold keyOf; rw [if_pos (by omega)]⟩, key_sym n w j (by omega) h0 h7⟩
  by_cases r1 : r = 1
  · subst r1
    have hi' : i = 0 ∨ i = 1 ∨ i = 2 ∨ i = 3 := by omega
    rcases hi' with rfl | rfl | rfl | rfl
    · exact ⟨_, ⟨8, by decide, rfl⟩, key_txt0 n w h0 h3⟩
    · exact ⟨_, ⟨9, by decide, rfl⟩, key_txt1 n w h0 h3⟩
    · exact ⟨_, ⟨10, by decide, rfl⟩, key_txt2 n w h0 h3⟩
    · exact ⟨_, ⟨11, by decide, rfl⟩, key_txt3 n w h0 h3⟩
  have t0 : ((r : Int) == 0) = false := by simp; omega
  have t1 : ((r : Int) == 1) = false := by simp; omega
  have hj' : j = 7 ∨ j = 0 ∨ j = 1 ∨ j = 2 ∨ j = 3 ∨ j = 4 ∨ j = 5 ∨ j = 6 := by omega
  rcases hj' with rfl | rfl | rfl | rfl | rfl | rfl | rfl | rfl
  · exact ⟨_, ⟨19, by decide, rfl⟩, key_len n w r t0 t1 h0 h7⟩
  · exact ⟨_, ⟨12, by decide, (hd 0 (by decide)).symm⟩, key_plc0 n w r t0 t1 h0 h7⟩
  · exact ⟨_, ⟨13, by decide, (hd 1 (by decide)).symm⟩, key_plc1 n w r t0 t1 h0 h7⟩
  · exact ⟨_, ⟨14, by decide, (hd 2 (by decide)).symm⟩, key_plc2 n w r t0 t1 h0 h7⟩
  · exact ⟨_, ⟨15, by decide, (hd 3 (by decide)).symm⟩, key_plc3 n w r t0 t1 h0 h7⟩
  · exact ⟨_, ⟨16, by decide, (hd 5 (by decide)).symm⟩, key_plc4 n w r t0 t1 h0 h7⟩
  · exact ⟨_, ⟨17, by decide, (hd 7 (by decide)).symm⟩, key_plc5 n w r t0 t1 h0 h7⟩
  · exact ⟨_, ⟨18, by decide, (by unfold keyOf keyD; rw [dig_step 12 (by decide) (by decide), dig_small (12 / 10) (by decide), dig_small (12 % 10) (by decide)]; rfl)⟩, key_plc6 n w r t0 t1 h0 h7⟩
end Go.Proofs.YtmimnaaofpkndaaDoor.Hp
