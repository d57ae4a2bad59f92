/- The reference, Binary of two values that are numbers. -/
import Derived.Test.YtjkboelcpihphaaDoorValL
import Derived.Deep.DeepCutAuto
import Derived.Deep.RegionHeld3
import Derived.Outline
set_option linter.unusedVariables false
set_option linter.unusedSimpArgs false
namespace Go.Proofs.YtjkboelcpihphaaDoor
open Go.RowKit

theorem Blk.mset3 {W : World} {g : Nat} {t : TypeId} {a b c : Value} (h : Blk W g t #[a, b, c]) (x y z : Value) : Blk (((W.setCell ⟨g, 0, none⟩ x).setCell ⟨g, 1, none⟩ y).setCell ⟨g, 2, none⟩ z) g t #[x, y, z] := ((h.set_ 0 x).set_ 1 y).set_ 2 z
theorem Blk.mfar3 {W : World} {g : Nat} {t : TypeId} {cs : Array Value} (h : Blk W g t cs) (f : Nat) (hne : g ≠ f) (x y z : Value) : Blk (((W.setCell ⟨f, 0, none⟩ x).setCell ⟨f, 1, none⟩ y).setCell ⟨f, 2, none⟩ z) g t cs := ((h.far (p := ⟨f, 0, none⟩) hne x).far (p := ⟨f, 1, none⟩) hne y).far (p := ⟨f, 2, none⟩) hne z
theorem mbelow3 {B : Nat} {w W : World} (h : Below B w W) (f : Nat) (hf : B ≤ f) (x y z : Value) : Below B w (((W.setCell ⟨f, 0, none⟩ x).setCell ⟨f, 1, none⟩ y).setCell ⟨f, 2, none⟩ z) := ((h.setCell (p := ⟨f, 0, none⟩) hf x).setCell (p := ⟨f, 1, none⟩) hf y).setCell (p := ⟨f, 2, none⟩) hf z
theorem mcells {W : World} {g : Nat} {t : TypeId} {a b c : Value} (h : Blk W g t #[a, b, c]) : W.cell? ⟨g, 0, none⟩ = some a ∧ W.cell? ⟨g, 1, none⟩ = some b ∧ W.cell? ⟨g, 2, none⟩ = some c := ⟨c30 h, c31 h, c32 h⟩
theorem mcells6 {W : World} {g g' : Nat} {t t' : TypeId} {a b c a' b' c' : Value} (h : Blk W g t #[a, b, c]) (h' : Blk W g' t' #[a', b', c']) : W.cell? ⟨g, 0, none⟩ = some a ∧ W.cell? ⟨g, 1, none⟩ = some b ∧ W.cell? ⟨g, 2, none⟩ = some c ∧ W.cell? ⟨g', 0, none⟩ = some a' ∧ W.cell? ⟨g', 1, none⟩ = some b' ∧ W.cell? ⟨g', 2, none⟩ = some c' := ⟨c30 h, c31 h, c32 h, c30 h', c31 h', c32 h'⟩

/-- Behind m, n := Of(x), Of(y): the two boxes, and the box of what is returned. -/
structure Tn (w W : World) (g h : Nat) (d : Int) (m : Bool) (z d' : Int) (m' : Bool) (z' : Int) : Prop where
  bel : Below w.heap.size w W
  kg : Blk W g 58 #[.int .u8 d, .bool m, .int .i64 z]
  kh : Blk W h 58 #[.int .u8 d', .bool m', .int .i64 z']
  kr : Blk W (w.heap.size + 2) 27 #[.int .i64 0, .int .i64 0, .string ⟨#[]⟩]

/-- Before the numbers are made: the boxes of the arguments and of what is returned. -/
structure B3 (w W : World) (k n : Int) (s : ByteArray) (k' n' : Int) (s' : ByteArray) : Prop where
  bel : Below w.heap.size w W
  kx : Blk W w.heap.size 27 #[.int .i64 k, .int .i64 n, .string s]
  ky : Blk W (w.heap.size + 1) 27 #[.int .i64 k', .int .i64 n', .string s']
  kr : Blk W (w.heap.size + 2) 27 #[.int .i64 0, .int .i64 0, .string ⟨#[]⟩]

set_option maxHeartbeats 8000000 in
set_option maxRecDepth 100000 in
theorem rb_core (o : ByteArray) (k n : Int) (s : ByteArray) (k' n' : Int) (s' : ByteArray) (p q p' q' d : Int) (m : Bool) (z d' : Int) (m' : Bool) (z' : Int) (od : Bool) (K N : Int) (Z : ByteArray) (e1 c : Int) (w : World)
    (f0 : (o.toList == [61, 61, 61]) = false) (f1 : (o.toList == [33, 61, 61]) = false) (HP : Hid ((o.toList == [43]) = false ∨ ((o.toList == [43]) = true ∧ (k == 7) = false ∧ (k' == 7) = false)))
    (HO : Hid ((od = false ∧ (o.toList == [60]) = false ∧ (o.toList == [62]) = false ∧ (o.toList == [60, 61]) = false ∧ (o.toList == [62, 61]) = false) ∨ (od = true ∧ (o = ⟨#[60]⟩ ∨ o = ⟨#[62]⟩ ∨ o = ⟨#[60, 61]⟩ ∨ o = ⟨#[62, 61]⟩)))) (HQ : Hid (od = false ∨ (k == 7) = false))
    (C1 : ∀ W, Calls Tryd.prog 30 #[VS k n s] W (Ret (.tuple #[VN p q, .int .i64 0]) W))
    (C2 : ∀ W, Calls Tryd.prog 30 #[VS k' n' s'] W (Ret (.tuple #[VN p' q', .int .i64 0]) W))
    (CA : ∀ W, Calls Tryd.prog 44 #[VN p q] W (Ret (RV d m z) W))
    (CB : ∀ W, Calls Tryd.prog 44 #[VN p' q'] W (Ret (RV d' m' z') W))
    (CR : od = false → ∀ W, Calls Tryd.prog 48 #[.string o, RV d m z, RV d' m' z'] W (Ret (.tuple #[VS K N Z, .int .i64 e1]) W))
    (CL : od = true → ∀ W, Calls Tryd.prog 43 #[RV d m z, RV d' m' z'] W (Ret (.int .i64 c) W))
    (HB : Hid (od = true → ∃ B : Bool, K = 2 ∧ N = tN B ∧ Z = ⟨#[]⟩ ∧ e1 = 0 ∧ ((o = ⟨#[60]⟩ ∧ ((c = -1 ∧ B = true) ∨ (c = 0 ∧ B = false) ∨ (c = 1 ∧ B = false) ∨ (c = 2 ∧ B = false))) ∨ (o = ⟨#[62]⟩ ∧ ((c = -1 ∧ B = false) ∨ (c = 0 ∧ B = false) ∨ (c = 1 ∧ B = true) ∨ (c = 2 ∧ B = false))) ∨ (o = ⟨#[60, 61]⟩ ∧ ((c = -1 ∧ B = true) ∨ (c = 0 ∧ B = true) ∨ (c = 1 ∧ B = false) ∨ (c = 2 ∧ B = false))) ∨ (o = ⟨#[62, 61]⟩ ∧ ((c = -1 ∧ B = false) ∨ (c = 0 ∧ B = true) ∨ (c = 1 ∧ B = true) ∨ (c = 2 ∧ B = false)))))) :
    Calls Tryd.prog 28 #[.string o, VS k n s, VS k' n' s'] w (Ret (.tuple #[VS K N Z, .int .i64 e1]) w) := by
  have H1 := Lib.hid C1
  have H2 := Lib.hid C2
  have HCA := Lib.hid CA
  have HCB := Lib.hid CB
  have HR := Lib.hid CR
  have HL := Lib.hid CL
  have HT := Lib.hid rtruth_any
  clear C1 C2 CA CB CR CL
  go_enter Tryd.func28, Tryd.ntmps28
  go_upto_region 3 with fail
  have k_x := ((Blk.new w 27 #[.int .i64 k, .int .i64 n, .string s]).alloc (.cells #[.int .i64 (k'), .int .i64 (n'), .string (s')] 27)).alloc (.cells #[.int .i64 0, .int .i64 0, .string ⟨#[]⟩] 27)
  have k_y := (Blk.new (w.alloc (.cells #[.int .i64 k, .int .i64 n, .string s] 27)) 27 #[.int .i64 (k'), .int .i64 (n'), .string (s')]).alloc (.cells #[.int .i64 0, .int .i64 0, .string ⟨#[]⟩] 27)
  rw [World.size_alloc] at k_y
  have k_r := Blk.new ((w.alloc (.cells #[.int .i64 k, .int .i64 n, .string s] 27)).alloc (.cells #[.int .i64 (k'), .int .i64 (n'), .string (s')] 27)) 27 #[.int .i64 0, .int .i64 0, .string ⟨#[]⟩]
  rw [World.size_alloc, World.size_alloc] at k_r
  have bb : Below w.heap.size w _ := ((((Below.refl _ _).alloc (Nat.le_refl _) (.cells #[.int .i64 k, .int .i64 n, .string s] 27)).alloc (by simp) (.cells #[.int .i64 (k'), .int .i64 (n'), .string (s')] 27)).alloc (by simp; omega) (.cells #[.int .i64 0, .int .i64 0, .string ⟨#[]⟩] 27))
  generalize (((w.alloc (.cells #[.int .i64 k, .int .i64 n, .string s] 27)).alloc (.cells #[.int .i64 (k'), .int .i64 (n'), .string (s')] 27)).alloc (.cells #[.int .i64 0, .int .i64 0, .string ⟨#[]⟩] 27)) = W0 at *
  have hB : B3 w _ k n s k' n' s' := ⟨bb, k_x, k_y, k_r⟩
  clear bb k_x k_y k_r
  go_cut [42] (fun s0 wx => s0 = .bool false ∧ B3 w wx k n s k' n' s')
  case first =>
    have hB' := hB
    obtain ⟨bb, k_x, k_y, k_r⟩ := hB'
    obtain ⟨x0, x1, x2⟩ := mcells k_x
    obtain ⟨y0, y1, y2⟩ := mcells k_y
    have lx := k_x.lt
    have ly := k_y.lt
    clear bb k_x k_y k_r
    rcases HP.out with hp | ⟨hp, hp1, hp2⟩
    all_goals
      go_wp2_with fail
      go_meet
      exact ⟨by simp [*], hB⟩
  case rest =>
  clear hB
  obtain ⟨rfl, hB⟩ := hcut
  go_upto_region 13 with fail
  go_cut [11] (fun s0 wx => s0 = .bool od ∧ B3 w wx k n s k' n' s')
  case first =>
    have hB' := hB
    obtain ⟨bb, k_x, k_y, k_r⟩ := hB'
    obtain ⟨x0, x1, x2⟩ := mcells k_x
    obtain ⟨y0, y1, y2⟩ := mcells k_y
    have lx := k_x.lt
    have ly := k_y.lt
    clear bb k_x k_y k_r
    rcases HO.out with ⟨rfl, o0, o1, o2, o3⟩ | ⟨rfl, rfl | rfl | rfl | rfl⟩
    all_goals
      go_wp2_with fail
      go_meet
      exact ⟨by simp [*], hB⟩
  case rest =>
  clear hB
  obtain ⟨rfl, hB⟩ := hcut
  go_upto_region 15 with fail
  go_cut [96] (fun s0 wx => s0 = .bool false ∧ B3 w wx k n s k' n' s')
  case first =>
    have hB' := hB
    obtain ⟨bb, k_x, k_y, k_r⟩ := hB'
    obtain ⟨x0, x1, x2⟩ := mcells k_x
    obtain ⟨y0, y1, y2⟩ := mcells k_y
    have lx := k_x.lt
    have ly := k_y.lt
    clear bb k_x k_y k_r
    rcases HQ.out with hq | hq <;> cases od <;> (try (cases hq; done))
    all_goals
      go_wp2_with fail
      go_meet
      exact ⟨by simp [*], hB⟩
  case rest =>
  clear hB
  obtain ⟨rfl, hB⟩ := hcut
  obtain ⟨bb, k_x, k_y, k_r⟩ := hB
  obtain ⟨x0, x1, x2⟩ := mcells k_x
  obtain ⟨y0, y1, y2⟩ := mcells k_y
  have lx := k_x.lt
  have ly := k_y.lt
  go_wp2_with fail
  refine (H1.out _).mono ?_
  rintro e w1 ⟨rfl, b1⟩
  clear x0 x1 x2 y0 y1 y2 lx ly
  have k_x := k_x.below b1 k_x.lt
  have k_y := k_y.below b1 k_y.lt
  have k_r := k_r.below b1 k_r.lt
  have bb := bb.trans (b1.mono bb.size)
  have x_x0 : w1.cell? ⟨w.heap.size, 0, none⟩ = some (.int .i64 k) := by rw [k_x.cell]; rfl
  have x_x1 : w1.cell? ⟨w.heap.size, 1, none⟩ = some (.int .i64 n) := by rw [k_x.cell]; rfl
  have x_x2 : w1.cell? ⟨w.heap.size, 2, none⟩ = some (.string s) := by rw [k_x.cell]; rfl
  have l_x := k_x.lt
  have x_y0 : w1.cell? ⟨w.heap.size + 1, 0, none⟩ = some (.int .i64 (k')) := by rw [k_y.cell]; rfl
  have x_y1 : w1.cell? ⟨w.heap.size + 1, 1, none⟩ = some (.int .i64 (n')) := by rw [k_y.cell]; rfl
  have x_y2 : w1.cell? ⟨w.heap.size + 1, 2, none⟩ = some (.string (s')) := by rw [k_y.cell]; rfl
  have l_y := k_y.lt
  have x_r0 : w1.cell? ⟨w.heap.size + 1 + 1, 0, none⟩ = some (.int .i64 0) := by rw [k_r.cell]; rfl
  have x_r1 : w1.cell? ⟨w.heap.size + 1 + 1, 1, none⟩ = some (.int .i64 0) := by rw [k_r.cell]; rfl
  have x_r2 : w1.cell? ⟨w.heap.size + 1 + 1, 2, none⟩ = some (.string ⟨#[]⟩) := by rw [k_r.cell]; rfl
  have l_r := k_r.lt
  go_wp2_with fail
  have k_x := k_x.alloc (.cells #[.int .i64 p, .int .i64 q, .string ⟨#[]⟩] 27)
  have k_y := k_y.alloc (.cells #[.int .i64 p, .int .i64 q, .string ⟨#[]⟩] 27)
  have k_r := k_r.alloc (.cells #[.int .i64 p, .int .i64 q, .string ⟨#[]⟩] 27)
  have k_q := Blk.new w1 27 #[.int .i64 p, .int .i64 q, .string ⟨#[]⟩]
  have bb := bb.alloc bb.size (.cells #[.int .i64 p, .int .i64 q, .string ⟨#[]⟩] 27)
  clear x_x0 x_x1 x_x2 l_x x_y0 x_y1 x_y2 l_y x_r0 x_r1 x_r2 l_r
  generalize w1.alloc (.cells #[.int .i64 p, .int .i64 q, .string ⟨#[]⟩] 27) = V1 at *
  have x_x0 : V1.cell? ⟨w.heap.size, 0, none⟩ = some (.int .i64 k) := by rw [k_x.cell]; rfl
  have x_x1 : V1.cell? ⟨w.heap.size, 1, none⟩ = some (.int .i64 n) := by rw [k_x.cell]; rfl
  have x_x2 : V1.cell? ⟨w.heap.size, 2, none⟩ = some (.string s) := by rw [k_x.cell]; rfl
  have l_x := k_x.lt
  have x_y0 : V1.cell? ⟨w.heap.size + 1, 0, none⟩ = some (.int .i64 (k')) := by rw [k_y.cell]; rfl
  have x_y1 : V1.cell? ⟨w.heap.size + 1, 1, none⟩ = some (.int .i64 (n')) := by rw [k_y.cell]; rfl
  have x_y2 : V1.cell? ⟨w.heap.size + 1, 2, none⟩ = some (.string (s')) := by rw [k_y.cell]; rfl
  have l_y := k_y.lt
  have x_r0 : V1.cell? ⟨w.heap.size + 1 + 1, 0, none⟩ = some (.int .i64 0) := by rw [k_r.cell]; rfl
  have x_r1 : V1.cell? ⟨w.heap.size + 1 + 1, 1, none⟩ = some (.int .i64 0) := by rw [k_r.cell]; rfl
  have x_r2 : V1.cell? ⟨w.heap.size + 1 + 1, 2, none⟩ = some (.string ⟨#[]⟩) := by rw [k_r.cell]; rfl
  have l_r := k_r.lt
  have x_q0 : V1.cell? ⟨w1.heap.size, 0, none⟩ = some (.int .i64 p) := by rw [k_q.cell]; rfl
  have x_q1 : V1.cell? ⟨w1.heap.size, 1, none⟩ = some (.int .i64 q) := by rw [k_q.cell]; rfl
  have x_q2 : V1.cell? ⟨w1.heap.size, 2, none⟩ = some (.string ⟨#[]⟩) := by rw [k_q.cell]; rfl
  have l_q := k_q.lt
  refine (H2.out _).mono ?_
  rintro e w2 ⟨rfl, b2⟩
  clear x_x0 x_x1 x_x2 l_x x_y0 x_y1 x_y2 l_y x_r0 x_r1 x_r2 l_r x_q0 x_q1 x_q2 l_q
  have k_x := k_x.below b2 k_x.lt
  have k_y := k_y.below b2 k_y.lt
  have k_r := k_r.below b2 k_r.lt
  have k_q := k_q.below b2 k_q.lt
  have bb := bb.trans (b2.mono bb.size)
  have x_x0 : w2.cell? ⟨w.heap.size, 0, none⟩ = some (.int .i64 k) := by rw [k_x.cell]; rfl
  have x_x1 : w2.cell? ⟨w.heap.size, 1, none⟩ = some (.int .i64 n) := by rw [k_x.cell]; rfl
  have x_x2 : w2.cell? ⟨w.heap.size, 2, none⟩ = some (.string s) := by rw [k_x.cell]; rfl
  have l_x := k_x.lt
  have x_y0 : w2.cell? ⟨w.heap.size + 1, 0, none⟩ = some (.int .i64 (k')) := by rw [k_y.cell]; rfl
  have x_y1 : w2.cell? ⟨w.heap.size + 1, 1, none⟩ = some (.int .i64 (n')) := by rw [k_y.cell]; rfl
  have x_y2 : w2.cell? ⟨w.heap.size + 1, 2, none⟩ = some (.string (s')) := by rw [k_y.cell]; rfl
  have l_y := k_y.lt
  have x_r0 : w2.cell? ⟨w.heap.size + 1 + 1, 0, none⟩ = some (.int .i64 0) := by rw [k_r.cell]; rfl
  have x_r1 : w2.cell? ⟨w.heap.size + 1 + 1, 1, none⟩ = some (.int .i64 0) := by rw [k_r.cell]; rfl
  have x_r2 : w2.cell? ⟨w.heap.size + 1 + 1, 2, none⟩ = some (.string ⟨#[]⟩) := by rw [k_r.cell]; rfl
  have l_r := k_r.lt
  have x_q0 : w2.cell? ⟨w1.heap.size, 0, none⟩ = some (.int .i64 p) := by rw [k_q.cell]; rfl
  have x_q1 : w2.cell? ⟨w1.heap.size, 1, none⟩ = some (.int .i64 q) := by rw [k_q.cell]; rfl
  have x_q2 : w2.cell? ⟨w1.heap.size, 2, none⟩ = some (.string ⟨#[]⟩) := by rw [k_q.cell]; rfl
  have l_q := k_q.lt
  go_upto_region 23 with fail
  have k_x := k_x.alloc (.cells #[.int .i64 p', .int .i64 q', .string ⟨#[]⟩] 27)
  have k_y := k_y.alloc (.cells #[.int .i64 p', .int .i64 q', .string ⟨#[]⟩] 27)
  have k_r := k_r.alloc (.cells #[.int .i64 p', .int .i64 q', .string ⟨#[]⟩] 27)
  have k_q := k_q.alloc (.cells #[.int .i64 p', .int .i64 q', .string ⟨#[]⟩] 27)
  have k_p := Blk.new w2 27 #[.int .i64 p', .int .i64 q', .string ⟨#[]⟩]
  have bb := bb.alloc bb.size (.cells #[.int .i64 p', .int .i64 q', .string ⟨#[]⟩] 27)
  clear x_x0 x_x1 x_x2 l_x x_y0 x_y1 x_y2 l_y x_r0 x_r1 x_r2 l_r x_q0 x_q1 x_q2 l_q
  generalize w2.alloc (.cells #[.int .i64 p', .int .i64 q', .string ⟨#[]⟩] 27) = V2 at *
  clear k_x k_y
  go_cut [16, 17] (fun s5 s6 wx => ∃ g h, s5 = .pointer (some ⟨g, 0, none⟩) ∧ s6 = .pointer (some ⟨h, 0, none⟩) ∧ Tn w wx g h d m z d' m' z')
  case first =>
    have k_q := k_q.drew
    have k_p := k_p.drew
    have k_r := k_r.drew
    have bb := bb.drew
    refine wp_region_held_drew (S := (fun W => W.cell? ⟨w1.heap.size, 0, none⟩ = some (.int .i64 p) ∧ W.cell? ⟨w1.heap.size, 1, none⟩ = some (.int .i64 q) ∧ W.cell? ⟨w1.heap.size, 2, none⟩ = some (.string ⟨#[]⟩) ∧ W.cell? ⟨w2.heap.size, 0, none⟩ = some (.int .i64 p') ∧ W.cell? ⟨w2.heap.size, 1, none⟩ = some (.int .i64 q') ∧ W.cell? ⟨w2.heap.size, 2, none⟩ = some (.string ⟨#[]⟩))) (by kernel_rfl) (mcells6 k_q k_p) (fun hHeld => ?_)
    generalize V2.drew = D0 at *
    refine wpAnyH_take (i := 0) (oi := ?oo900) (v := ?vv900) ?hi900 (by kernel_rfl) (by kernel_rfl) (by kernel_rfl) ?hq900 ?hy900 (by assumption) ?hh900
    case hi900 => (simp only [List.getElem?_toArray, List.getElem?_cons_succ, List.getElem?_cons_zero]; rfl)
    case hq900 => exact fun _ _ _ h => h
    case hy900 => exact Or.inl ⟨by rfl, by (intro W hSw; (try dsimp only at hSw); go_simp; (try with_reducible rfl))⟩
    (try simp only [Act.put, List.setIfInBounds_toArray, List.set_cons_zero, List.set_cons_succ])
    refine wpAnyH_take (i := 2) (oi := ?oo901) (v := ?vv901) ?hi901 (by kernel_rfl) (by kernel_rfl) (by kernel_rfl) ?hq901 ?hy901 (by assumption) ?hh901
    case hi901 => (simp only [List.getElem?_toArray, List.getElem?_cons_succ, List.getElem?_cons_zero]; rfl)
    case hq901 => exact fun _ _ _ h => h
    case hy901 => exact Or.inl ⟨by rfl, by (intro W hSw; (try dsimp only at hSw); go_simp; (try with_reducible rfl))⟩
    (try simp only [Act.put, List.setIfInBounds_toArray, List.set_cons_zero, List.set_cons_succ])
    refine wpAnyH_ready (rs := [1, 4, 5]) (by kernel_rfl) (by simp) ?_
    refine AllReadyH.cons rfl (fun K hK => ?_) (AllReadyH.cons rfl (fun K hK => ?_) (AllReadyH.cons rfl (fun K hK => ?_) AllReadyH.nil))
    · go_simp
      go_at_call 44
      (with_reducible refine (HCA.out _).mono ?_)
      rintro e U1 ⟨rfl, bq⟩
      have k_q := k_q.below bq k_q.lt
      have k_p := k_p.below bq k_p.lt
      have k_r := k_r.below bq k_r.lt
      have bb := bb.trans (bq.mono bb.size)
      clear bq
      refine hK.out _ _ (mcells6 k_q k_p) (fun hHeld => ?_)
      clear hK K
      (try simp only [Act.put, List.setIfInBounds_toArray, List.set_cons_zero, List.set_cons_succ])
      refine wpAnyH_ready (rs := [3, 4, 5]) (by kernel_rfl) (by simp) ?_
      refine AllReadyH.cons rfl (fun K hK => ?_) (AllReadyH.cons rfl (fun K hK => ?_) (AllReadyH.cons rfl (fun K hK => ?_) AllReadyH.nil))
      · go_simp
        go_at_call 44
        (with_reducible refine (HCB.out _).mono ?_)
        rintro e U2 ⟨rfl, bq⟩
        have k_q := k_q.below bq k_q.lt
        have k_p := k_p.below bq k_p.lt
        have k_r := k_r.below bq k_r.lt
        have bb := bb.trans (bq.mono bb.size)
        clear bq
        refine hK.out _ _ (mcells6 k_q k_p) (fun hHeld => ?_)
        clear hK K
        (try simp only [Act.put, List.setIfInBounds_toArray, List.set_cons_zero, List.set_cons_succ])
        refine wpAnyH_ready (rs := [4, 5]) (by kernel_rfl) (by simp) ?_
        refine AllReadyH.cons rfl (fun K hK => ?_) (AllReadyH.cons rfl (fun K hK => ?_) AllReadyH.nil)
        · go_simp
          have n_qg := k_q.lt
          have n_pg := k_p.lt
          have n_rg := k_r.lt
          have n_wg := bb.size
          have k_q := k_q.alloc (.cells #[.int .u8 0, .bool false, .int .i64 0] 58)
          have k_p := k_p.alloc (.cells #[.int .u8 0, .bool false, .int .i64 0] 58)
          have k_r := k_r.alloc (.cells #[.int .u8 0, .bool false, .int .i64 0] 58)
          have k_g := Blk.new U2 58 #[.int .u8 0, .bool false, .int .i64 0]
          have bb := bb.alloc bb.size (.cells #[.int .u8 0, .bool false, .int .i64 0] 58)
          refine hK.out _ _ (mcells6 k_q k_p) (fun hHeld => ?_)
          clear hK K
          generalize U2.alloc (.cells #[.int .u8 0, .bool false, .int .i64 0] 58) = U3 at *
          generalize U2.heap.size = g at *
          (try simp only [Act.put, List.setIfInBounds_toArray, List.set_cons_zero, List.set_cons_succ])
          refine wpAnyH_ready (rs := [5]) (by kernel_rfl) (by simp) ?_
          refine AllReadyH.cons rfl (fun K hK => ?_) AllReadyH.nil
          · go_simp
            have n_qh := k_q.lt
            have n_ph := k_p.lt
            have n_rh := k_r.lt
            have n_gh := k_g.lt
            have n_wh := bb.size
            have k_q := k_q.alloc (.cells #[.int .u8 0, .bool false, .int .i64 0] 58)
            have k_p := k_p.alloc (.cells #[.int .u8 0, .bool false, .int .i64 0] 58)
            have k_r := k_r.alloc (.cells #[.int .u8 0, .bool false, .int .i64 0] 58)
            have k_g := k_g.alloc (.cells #[.int .u8 0, .bool false, .int .i64 0] 58)
            have k_h := Blk.new U3 58 #[.int .u8 0, .bool false, .int .i64 0]
            have bb := bb.alloc bb.size (.cells #[.int .u8 0, .bool false, .int .i64 0] 58)
            refine hK.out _ _ (mcells6 k_q k_p) (fun hHeld => ?_)
            clear hK K
            generalize U3.alloc (.cells #[.int .u8 0, .bool false, .int .i64 0] 58) = U4 at *
            generalize U3.heap.size = h at *
            have n_hg : g ≠ h := by omega
            have n_gh : h ≠ g := by omega
            (try simp only [Act.put, List.setIfInBounds_toArray, List.set_cons_zero, List.set_cons_succ])
            obtain ⟨x0, x1, x2⟩ := mcells k_g
            have z0 := k_g.frozen 0
            have z1 := k_g.frozen 1
            have z2 := k_g.frozen 2
            have l0 := k_g.lt
            refine wpAnyH_ready (rs := [6]) (by kernel_rfl) (by simp) ?_
            refine AllReadyH.cons rfl (fun K hK => ?_) AllReadyH.nil
            go_simp
            clear x0 x1 x2 z0 z1 z2 l0
            have k_g := k_g.mset3 (.int .u8 d) (.bool m) (.int .i64 z)
            have k_h := k_h.mfar3 g n_gh (.int .u8 d) (.bool m) (.int .i64 z)
            have k_q := k_q.mfar3 g (by omega) (.int .u8 d) (.bool m) (.int .i64 z)
            have k_p := k_p.mfar3 g (by omega) (.int .u8 d) (.bool m) (.int .i64 z)
            have k_r := k_r.mfar3 g (by omega) (.int .u8 d) (.bool m) (.int .i64 z)
            have bb := mbelow3 bb g (by omega) (.int .u8 d) (.bool m) (.int .i64 z)
            refine hK.out _ _ (mcells6 k_q k_p) (fun hHeld => ?_)
            clear hK K
            generalize (((U4.setCell ⟨g, 0, none⟩ (.int .u8 d)).setCell ⟨g, 1, none⟩ (.bool m)).setCell ⟨g, 2, none⟩ (.int .i64 z)) = U5 at *
            (try simp only [Act.put, List.setIfInBounds_toArray, List.set_cons_zero, List.set_cons_succ])
            obtain ⟨x0, x1, x2⟩ := mcells k_h
            have z0 := k_h.frozen 0
            have z1 := k_h.frozen 1
            have z2 := k_h.frozen 2
            have l0 := k_h.lt
            refine wpAnyH_ready (rs := [7]) (by kernel_rfl) (by simp) ?_
            refine AllReadyH.cons rfl (fun K hK => ?_) AllReadyH.nil
            go_simp
            clear x0 x1 x2 z0 z1 z2 l0
            have k_h := k_h.mset3 (.int .u8 d') (.bool m') (.int .i64 z')
            have k_g := k_g.mfar3 h n_hg (.int .u8 d') (.bool m') (.int .i64 z')
            have k_q := k_q.mfar3 h (by omega) (.int .u8 d') (.bool m') (.int .i64 z')
            have k_p := k_p.mfar3 h (by omega) (.int .u8 d') (.bool m') (.int .i64 z')
            have k_r := k_r.mfar3 h (by omega) (.int .u8 d') (.bool m') (.int .i64 z')
            have bb := mbelow3 bb h (by omega) (.int .u8 d') (.bool m') (.int .i64 z')
            refine hK.out _ _ (mcells6 k_q k_p) (fun hHeld => ?_)
            clear hK K
            generalize (((U5.setCell ⟨h, 0, none⟩ (.int .u8 d')).setCell ⟨h, 1, none⟩ (.bool m')).setCell ⟨h, 2, none⟩ (.int .i64 z')) = U6 at *
            (try simp only [Act.put, List.setIfInBounds_toArray, List.set_cons_zero, List.set_cons_succ])
            refine wpAnyH_done (by kernel_rfl) ?_ _
            go_wp2_with fail
            go_meet
            exact ⟨g, h, rfl, rfl, ⟨bb, k_g, k_h, k_r⟩⟩
        · go_simp
          have n_qh := k_q.lt
          have n_ph := k_p.lt
          have n_rh := k_r.lt
          have n_wh := bb.size
          have k_q := k_q.alloc (.cells #[.int .u8 0, .bool false, .int .i64 0] 58)
          have k_p := k_p.alloc (.cells #[.int .u8 0, .bool false, .int .i64 0] 58)
          have k_r := k_r.alloc (.cells #[.int .u8 0, .bool false, .int .i64 0] 58)
          have k_h := Blk.new U2 58 #[.int .u8 0, .bool false, .int .i64 0]
          have bb := bb.alloc bb.size (.cells #[.int .u8 0, .bool false, .int .i64 0] 58)
          refine hK.out _ _ (mcells6 k_q k_p) (fun hHeld => ?_)
          clear hK K
          generalize U2.alloc (.cells #[.int .u8 0, .bool false, .int .i64 0] 58) = U7 at *
          generalize U2.heap.size = h at *
          (try simp only [Act.put, List.setIfInBounds_toArray, List.set_cons_zero, List.set_cons_succ])
          refine wpAnyH_ready (rs := [4]) (by kernel_rfl) (by simp) ?_
          refine AllReadyH.cons rfl (fun K hK => ?_) AllReadyH.nil
          · go_simp
            have n_qg := k_q.lt
            have n_pg := k_p.lt
            have n_rg := k_r.lt
            have n_hg := k_h.lt
            have n_wg := bb.size
            have k_q := k_q.alloc (.cells #[.int .u8 0, .bool false, .int .i64 0] 58)
            have k_p := k_p.alloc (.cells #[.int .u8 0, .bool false, .int .i64 0] 58)
            have k_r := k_r.alloc (.cells #[.int .u8 0, .bool false, .int .i64 0] 58)
            have k_h := k_h.alloc (.cells #[.int .u8 0, .bool false, .int .i64 0] 58)
            have k_g := Blk.new U7 58 #[.int .u8 0, .bool false, .int .i64 0]
            have bb := bb.alloc bb.size (.cells #[.int .u8 0, .bool false, .int .i64 0] 58)
            refine hK.out _ _ (mcells6 k_q k_p) (fun hHeld => ?_)
            clear hK K
            generalize U7.alloc (.cells #[.int .u8 0, .bool false, .int .i64 0] 58) = U8 at *
            generalize U7.heap.size = g at *
            have n_gh : h ≠ g := by omega
            have n_hg : g ≠ h := by omega
            (try simp only [Act.put, List.setIfInBounds_toArray, List.set_cons_zero, List.set_cons_succ])
            obtain ⟨x0, x1, x2⟩ := mcells k_g
            have z0 := k_g.frozen 0
            have z1 := k_g.frozen 1
            have z2 := k_g.frozen 2
            have l0 := k_g.lt
            refine wpAnyH_ready (rs := [6]) (by kernel_rfl) (by simp) ?_
            refine AllReadyH.cons rfl (fun K hK => ?_) AllReadyH.nil
            go_simp
            clear x0 x1 x2 z0 z1 z2 l0
            have k_g := k_g.mset3 (.int .u8 d) (.bool m) (.int .i64 z)
            have k_h := k_h.mfar3 g n_gh (.int .u8 d) (.bool m) (.int .i64 z)
            have k_q := k_q.mfar3 g (by omega) (.int .u8 d) (.bool m) (.int .i64 z)
            have k_p := k_p.mfar3 g (by omega) (.int .u8 d) (.bool m) (.int .i64 z)
            have k_r := k_r.mfar3 g (by omega) (.int .u8 d) (.bool m) (.int .i64 z)
            have bb := mbelow3 bb g (by omega) (.int .u8 d) (.bool m) (.int .i64 z)
            refine hK.out _ _ (mcells6 k_q k_p) (fun hHeld => ?_)
            clear hK K
            generalize (((U8.setCell ⟨g, 0, none⟩ (.int .u8 d)).setCell ⟨g, 1, none⟩ (.bool m)).setCell ⟨g, 2, none⟩ (.int .i64 z)) = U9 at *
            (try simp only [Act.put, List.setIfInBounds_toArray, List.set_cons_zero, List.set_cons_succ])
            obtain ⟨x0, x1, x2⟩ := mcells k_h
            have z0 := k_h.frozen 0
            have z1 := k_h.frozen 1
            have z2 := k_h.frozen 2
            have l0 := k_h.lt
            refine wpAnyH_ready (rs := [7]) (by kernel_rfl) (by simp) ?_
            refine AllReadyH.cons rfl (fun K hK => ?_) AllReadyH.nil
            go_simp
            clear x0 x1 x2 z0 z1 z2 l0
            have k_h := k_h.mset3 (.int .u8 d') (.bool m') (.int .i64 z')
            have k_g := k_g.mfar3 h n_hg (.int .u8 d') (.bool m') (.int .i64 z')
            have k_q := k_q.mfar3 h (by omega) (.int .u8 d') (.bool m') (.int .i64 z')
            have k_p := k_p.mfar3 h (by omega) (.int .u8 d') (.bool m') (.int .i64 z')
            have k_r := k_r.mfar3 h (by omega) (.int .u8 d') (.bool m') (.int .i64 z')
            have bb := mbelow3 bb h (by omega) (.int .u8 d') (.bool m') (.int .i64 z')
            refine hK.out _ _ (mcells6 k_q k_p) (fun hHeld => ?_)
            clear hK K
            generalize (((U9.setCell ⟨h, 0, none⟩ (.int .u8 d')).setCell ⟨h, 1, none⟩ (.bool m')).setCell ⟨h, 2, none⟩ (.int .i64 z')) = U10 at *
            (try simp only [Act.put, List.setIfInBounds_toArray, List.set_cons_zero, List.set_cons_succ])
            refine wpAnyH_done (by kernel_rfl) ?_ _
            go_wp2_with fail
            go_meet
            exact ⟨g, h, rfl, rfl, ⟨bb, k_g, k_h, k_r⟩⟩
      · go_simp
        have n_qg := k_q.lt
        have n_pg := k_p.lt
        have n_rg := k_r.lt
        have n_wg := bb.size
        have k_q := k_q.alloc (.cells #[.int .u8 0, .bool false, .int .i64 0] 58)
        have k_p := k_p.alloc (.cells #[.int .u8 0, .bool false, .int .i64 0] 58)
        have k_r := k_r.alloc (.cells #[.int .u8 0, .bool false, .int .i64 0] 58)
        have k_g := Blk.new U1 58 #[.int .u8 0, .bool false, .int .i64 0]
        have bb := bb.alloc bb.size (.cells #[.int .u8 0, .bool false, .int .i64 0] 58)
        refine hK.out _ _ (mcells6 k_q k_p) (fun hHeld => ?_)
        clear hK K
        generalize U1.alloc (.cells #[.int .u8 0, .bool false, .int .i64 0] 58) = U11 at *
        generalize U1.heap.size = g at *
        (try simp only [Act.put, List.setIfInBounds_toArray, List.set_cons_zero, List.set_cons_succ])
        refine wpAnyH_ready (rs := [3, 5]) (by kernel_rfl) (by simp) ?_
        refine AllReadyH.cons rfl (fun K hK => ?_) (AllReadyH.cons rfl (fun K hK => ?_) AllReadyH.nil)
        · go_simp
          go_at_call 44
          (with_reducible refine (HCB.out _).mono ?_)
          rintro e U12 ⟨rfl, bq⟩
          have k_q := k_q.below bq k_q.lt
          have k_p := k_p.below bq k_p.lt
          have k_r := k_r.below bq k_r.lt
          have k_g := k_g.below bq k_g.lt
          have bb := bb.trans (bq.mono bb.size)
          clear bq
          refine hK.out _ _ (mcells6 k_q k_p) (fun hHeld => ?_)
          clear hK K
          (try simp only [Act.put, List.setIfInBounds_toArray, List.set_cons_zero, List.set_cons_succ])
          refine wpAnyH_ready (rs := [5]) (by kernel_rfl) (by simp) ?_
          refine AllReadyH.cons rfl (fun K hK => ?_) AllReadyH.nil
          · go_simp
            have n_qh := k_q.lt
            have n_ph := k_p.lt
            have n_rh := k_r.lt
            have n_gh := k_g.lt
            have n_wh := bb.size
            have k_q := k_q.alloc (.cells #[.int .u8 0, .bool false, .int .i64 0] 58)
            have k_p := k_p.alloc (.cells #[.int .u8 0, .bool false, .int .i64 0] 58)
            have k_r := k_r.alloc (.cells #[.int .u8 0, .bool false, .int .i64 0] 58)
            have k_g := k_g.alloc (.cells #[.int .u8 0, .bool false, .int .i64 0] 58)
            have k_h := Blk.new U12 58 #[.int .u8 0, .bool false, .int .i64 0]
            have bb := bb.alloc bb.size (.cells #[.int .u8 0, .bool false, .int .i64 0] 58)
            refine hK.out _ _ (mcells6 k_q k_p) (fun hHeld => ?_)
            clear hK K
            generalize U12.alloc (.cells #[.int .u8 0, .bool false, .int .i64 0] 58) = U13 at *
            generalize U12.heap.size = h at *
            have n_hg : g ≠ h := by omega
            have n_gh : h ≠ g := by omega
            (try simp only [Act.put, List.setIfInBounds_toArray, List.set_cons_zero, List.set_cons_succ])
            obtain ⟨x0, x1, x2⟩ := mcells k_g
            have z0 := k_g.frozen 0
            have z1 := k_g.frozen 1
            have z2 := k_g.frozen 2
            have l0 := k_g.lt
            refine wpAnyH_ready (rs := [6]) (by kernel_rfl) (by simp) ?_
            refine AllReadyH.cons rfl (fun K hK => ?_) AllReadyH.nil
            go_simp
            clear x0 x1 x2 z0 z1 z2 l0
            have k_g := k_g.mset3 (.int .u8 d) (.bool m) (.int .i64 z)
            have k_h := k_h.mfar3 g n_gh (.int .u8 d) (.bool m) (.int .i64 z)
            have k_q := k_q.mfar3 g (by omega) (.int .u8 d) (.bool m) (.int .i64 z)
            have k_p := k_p.mfar3 g (by omega) (.int .u8 d) (.bool m) (.int .i64 z)
            have k_r := k_r.mfar3 g (by omega) (.int .u8 d) (.bool m) (.int .i64 z)
            have bb := mbelow3 bb g (by omega) (.int .u8 d) (.bool m) (.int .i64 z)
            refine hK.out _ _ (mcells6 k_q k_p) (fun hHeld => ?_)
            clear hK K
            generalize (((U13.setCell ⟨g, 0, none⟩ (.int .u8 d)).setCell ⟨g, 1, none⟩ (.bool m)).setCell ⟨g, 2, none⟩ (.int .i64 z)) = U14 at *
            (try simp only [Act.put, List.setIfInBounds_toArray, List.set_cons_zero, List.set_cons_succ])
            obtain ⟨x0, x1, x2⟩ := mcells k_h
            have z0 := k_h.frozen 0
            have z1 := k_h.frozen 1
            have z2 := k_h.frozen 2
            have l0 := k_h.lt
            refine wpAnyH_ready (rs := [7]) (by kernel_rfl) (by simp) ?_
            refine AllReadyH.cons rfl (fun K hK => ?_) AllReadyH.nil
            go_simp
            clear x0 x1 x2 z0 z1 z2 l0
            have k_h := k_h.mset3 (.int .u8 d') (.bool m') (.int .i64 z')
            have k_g := k_g.mfar3 h n_hg (.int .u8 d') (.bool m') (.int .i64 z')
            have k_q := k_q.mfar3 h (by omega) (.int .u8 d') (.bool m') (.int .i64 z')
            have k_p := k_p.mfar3 h (by omega) (.int .u8 d') (.bool m') (.int .i64 z')
            have k_r := k_r.mfar3 h (by omega) (.int .u8 d') (.bool m') (.int .i64 z')
            have bb := mbelow3 bb h (by omega) (.int .u8 d') (.bool m') (.int .i64 z')
            refine hK.out _ _ (mcells6 k_q k_p) (fun hHeld => ?_)
            clear hK K
            generalize (((U14.setCell ⟨h, 0, none⟩ (.int .u8 d')).setCell ⟨h, 1, none⟩ (.bool m')).setCell ⟨h, 2, none⟩ (.int .i64 z')) = U15 at *
            (try simp only [Act.put, List.setIfInBounds_toArray, List.set_cons_zero, List.set_cons_succ])
            refine wpAnyH_done (by kernel_rfl) ?_ _
            go_wp2_with fail
            go_meet
            exact ⟨g, h, rfl, rfl, ⟨bb, k_g, k_h, k_r⟩⟩
        · go_simp
          have n_qh := k_q.lt
          have n_ph := k_p.lt
          have n_rh := k_r.lt
          have n_gh := k_g.lt
          have n_wh := bb.size
          have k_q := k_q.alloc (.cells #[.int .u8 0, .bool false, .int .i64 0] 58)
          have k_p := k_p.alloc (.cells #[.int .u8 0, .bool false, .int .i64 0] 58)
          have k_r := k_r.alloc (.cells #[.int .u8 0, .bool false, .int .i64 0] 58)
          have k_g := k_g.alloc (.cells #[.int .u8 0, .bool false, .int .i64 0] 58)
          have k_h := Blk.new U11 58 #[.int .u8 0, .bool false, .int .i64 0]
          have bb := bb.alloc bb.size (.cells #[.int .u8 0, .bool false, .int .i64 0] 58)
          refine hK.out _ _ (mcells6 k_q k_p) (fun hHeld => ?_)
          clear hK K
          generalize U11.alloc (.cells #[.int .u8 0, .bool false, .int .i64 0] 58) = U16 at *
          generalize U11.heap.size = h at *
          have n_hg : g ≠ h := by omega
          have n_gh : h ≠ g := by omega
          (try simp only [Act.put, List.setIfInBounds_toArray, List.set_cons_zero, List.set_cons_succ])
          refine wpAnyH_ready (rs := [3]) (by kernel_rfl) (by simp) ?_
          refine AllReadyH.cons rfl (fun K hK => ?_) AllReadyH.nil
          · go_simp
            go_at_call 44
            (with_reducible refine (HCB.out _).mono ?_)
            rintro e U17 ⟨rfl, bq⟩
            have k_q := k_q.below bq k_q.lt
            have k_p := k_p.below bq k_p.lt
            have k_r := k_r.below bq k_r.lt
            have k_g := k_g.below bq k_g.lt
            have k_h := k_h.below bq k_h.lt
            have bb := bb.trans (bq.mono bb.size)
            clear bq
            refine hK.out _ _ (mcells6 k_q k_p) (fun hHeld => ?_)
            clear hK K
            (try simp only [Act.put, List.setIfInBounds_toArray, List.set_cons_zero, List.set_cons_succ])
            obtain ⟨x0, x1, x2⟩ := mcells k_g
            have z0 := k_g.frozen 0
            have z1 := k_g.frozen 1
            have z2 := k_g.frozen 2
            have l0 := k_g.lt
            refine wpAnyH_ready (rs := [6]) (by kernel_rfl) (by simp) ?_
            refine AllReadyH.cons rfl (fun K hK => ?_) AllReadyH.nil
            go_simp
            clear x0 x1 x2 z0 z1 z2 l0
            have k_g := k_g.mset3 (.int .u8 d) (.bool m) (.int .i64 z)
            have k_h := k_h.mfar3 g n_gh (.int .u8 d) (.bool m) (.int .i64 z)
            have k_q := k_q.mfar3 g (by omega) (.int .u8 d) (.bool m) (.int .i64 z)
            have k_p := k_p.mfar3 g (by omega) (.int .u8 d) (.bool m) (.int .i64 z)
            have k_r := k_r.mfar3 g (by omega) (.int .u8 d) (.bool m) (.int .i64 z)
            have bb := mbelow3 bb g (by omega) (.int .u8 d) (.bool m) (.int .i64 z)
            refine hK.out _ _ (mcells6 k_q k_p) (fun hHeld => ?_)
            clear hK K
            generalize (((U17.setCell ⟨g, 0, none⟩ (.int .u8 d)).setCell ⟨g, 1, none⟩ (.bool m)).setCell ⟨g, 2, none⟩ (.int .i64 z)) = U18 at *
            (try simp only [Act.put, List.setIfInBounds_toArray, List.set_cons_zero, List.set_cons_succ])
            obtain ⟨x0, x1, x2⟩ := mcells k_h
            have z0 := k_h.frozen 0
            have z1 := k_h.frozen 1
            have z2 := k_h.frozen 2
            have l0 := k_h.lt
            refine wpAnyH_ready (rs := [7]) (by kernel_rfl) (by simp) ?_
            refine AllReadyH.cons rfl (fun K hK => ?_) AllReadyH.nil
            go_simp
            clear x0 x1 x2 z0 z1 z2 l0
            have k_h := k_h.mset3 (.int .u8 d') (.bool m') (.int .i64 z')
            have k_g := k_g.mfar3 h n_hg (.int .u8 d') (.bool m') (.int .i64 z')
            have k_q := k_q.mfar3 h (by omega) (.int .u8 d') (.bool m') (.int .i64 z')
            have k_p := k_p.mfar3 h (by omega) (.int .u8 d') (.bool m') (.int .i64 z')
            have k_r := k_r.mfar3 h (by omega) (.int .u8 d') (.bool m') (.int .i64 z')
            have bb := mbelow3 bb h (by omega) (.int .u8 d') (.bool m') (.int .i64 z')
            refine hK.out _ _ (mcells6 k_q k_p) (fun hHeld => ?_)
            clear hK K
            generalize (((U18.setCell ⟨h, 0, none⟩ (.int .u8 d')).setCell ⟨h, 1, none⟩ (.bool m')).setCell ⟨h, 2, none⟩ (.int .i64 z')) = U19 at *
            (try simp only [Act.put, List.setIfInBounds_toArray, List.set_cons_zero, List.set_cons_succ])
            refine wpAnyH_done (by kernel_rfl) ?_ _
            go_wp2_with fail
            go_meet
            exact ⟨g, h, rfl, rfl, ⟨bb, k_g, k_h, k_r⟩⟩
      · go_simp
        have n_qh := k_q.lt
        have n_ph := k_p.lt
        have n_rh := k_r.lt
        have n_wh := bb.size
        have k_q := k_q.alloc (.cells #[.int .u8 0, .bool false, .int .i64 0] 58)
        have k_p := k_p.alloc (.cells #[.int .u8 0, .bool false, .int .i64 0] 58)
        have k_r := k_r.alloc (.cells #[.int .u8 0, .bool false, .int .i64 0] 58)
        have k_h := Blk.new U1 58 #[.int .u8 0, .bool false, .int .i64 0]
        have bb := bb.alloc bb.size (.cells #[.int .u8 0, .bool false, .int .i64 0] 58)
        refine hK.out _ _ (mcells6 k_q k_p) (fun hHeld => ?_)
        clear hK K
        generalize U1.alloc (.cells #[.int .u8 0, .bool false, .int .i64 0] 58) = U20 at *
        generalize U1.heap.size = h at *
        (try simp only [Act.put, List.setIfInBounds_toArray, List.set_cons_zero, List.set_cons_succ])
        refine wpAnyH_ready (rs := [3, 4]) (by kernel_rfl) (by simp) ?_
        refine AllReadyH.cons rfl (fun K hK => ?_) (AllReadyH.cons rfl (fun K hK => ?_) AllReadyH.nil)
        · go_simp
          go_at_call 44
          (with_reducible refine (HCB.out _).mono ?_)
          rintro e U21 ⟨rfl, bq⟩
          have k_q := k_q.below bq k_q.lt
          have k_p := k_p.below bq k_p.lt
          have k_r := k_r.below bq k_r.lt
          have k_h := k_h.below bq k_h.lt
          have bb := bb.trans (bq.mono bb.size)
          clear bq
          refine hK.out _ _ (mcells6 k_q k_p) (fun hHeld => ?_)
          clear hK K
          (try simp only [Act.put, List.setIfInBounds_toArray, List.set_cons_zero, List.set_cons_succ])
          refine wpAnyH_ready (rs := [4]) (by kernel_rfl) (by simp) ?_
          refine AllReadyH.cons rfl (fun K hK => ?_) AllReadyH.nil
          · go_simp
            have n_qg := k_q.lt
            have n_pg := k_p.lt
            have n_rg := k_r.lt
            have n_hg := k_h.lt
            have n_wg := bb.size
            have k_q := k_q.alloc (.cells #[.int .u8 0, .bool false, .int .i64 0] 58)
            have k_p := k_p.alloc (.cells #[.int .u8 0, .bool false, .int .i64 0] 58)
            have k_r := k_r.alloc (.cells #[.int .u8 0, .bool false, .int .i64 0] 58)
            have k_h := k_h.alloc (.cells #[.int .u8 0, .bool false, .int .i64 0] 58)
            have k_g := Blk.new U21 58 #[.int .u8 0, .bool false, .int .i64 0]
            have bb := bb.alloc bb.size (.cells #[.int .u8 0, .bool false, .int .i64 0] 58)
            refine hK.out _ _ (mcells6 k_q k_p) (fun hHeld => ?_)
            clear hK K
            generalize U21.alloc (.cells #[.int .u8 0, .bool false, .int .i64 0] 58) = U22 at *
            generalize U21.heap.size = g at *
            have n_gh : h ≠ g := by omega
            have n_hg : g ≠ h := by omega
            (try simp only [Act.put, List.setIfInBounds_toArray, List.set_cons_zero, List.set_cons_succ])
            obtain ⟨x0, x1, x2⟩ := mcells k_g
            have z0 := k_g.frozen 0
            have z1 := k_g.frozen 1
            have z2 := k_g.frozen 2
            have l0 := k_g.lt
            refine wpAnyH_ready (rs := [6]) (by kernel_rfl) (by simp) ?_
            refine AllReadyH.cons rfl (fun K hK => ?_) AllReadyH.nil
            go_simp
            clear x0 x1 x2 z0 z1 z2 l0
            have k_g := k_g.mset3 (.int .u8 d) (.bool m) (.int .i64 z)
            have k_h := k_h.mfar3 g n_gh (.int .u8 d) (.bool m) (.int .i64 z)
            have k_q := k_q.mfar3 g (by omega) (.int .u8 d) (.bool m) (.int .i64 z)
            have k_p := k_p.mfar3 g (by omega) (.int .u8 d) (.bool m) (.int .i64 z)
            have k_r := k_r.mfar3 g (by omega) (.int .u8 d) (.bool m) (.int .i64 z)
            have bb := mbelow3 bb g (by omega) (.int .u8 d) (.bool m) (.int .i64 z)
            refine hK.out _ _ (mcells6 k_q k_p) (fun hHeld => ?_)
            clear hK K
            generalize (((U22.setCell ⟨g, 0, none⟩ (.int .u8 d)).setCell ⟨g, 1, none⟩ (.bool m)).setCell ⟨g, 2, none⟩ (.int .i64 z)) = U23 at *
            (try simp only [Act.put, List.setIfInBounds_toArray, List.set_cons_zero, List.set_cons_succ])
            obtain ⟨x0, x1, x2⟩ := mcells k_h
            have z0 := k_h.frozen 0
            have z1 := k_h.frozen 1
            have z2 := k_h.frozen 2
            have l0 := k_h.lt
            refine wpAnyH_ready (rs := [7]) (by kernel_rfl) (by simp) ?_
            refine AllReadyH.cons rfl (fun K hK => ?_) AllReadyH.nil
            go_simp
            clear x0 x1 x2 z0 z1 z2 l0
            have k_h := k_h.mset3 (.int .u8 d') (.bool m') (.int .i64 z')
            have k_g := k_g.mfar3 h n_hg (.int .u8 d') (.bool m') (.int .i64 z')
            have k_q := k_q.mfar3 h (by omega) (.int .u8 d') (.bool m') (.int .i64 z')
            have k_p := k_p.mfar3 h (by omega) (.int .u8 d') (.bool m') (.int .i64 z')
            have k_r := k_r.mfar3 h (by omega) (.int .u8 d') (.bool m') (.int .i64 z')
            have bb := mbelow3 bb h (by omega) (.int .u8 d') (.bool m') (.int .i64 z')
            refine hK.out _ _ (mcells6 k_q k_p) (fun hHeld => ?_)
            clear hK K
            generalize (((U23.setCell ⟨h, 0, none⟩ (.int .u8 d')).setCell ⟨h, 1, none⟩ (.bool m')).setCell ⟨h, 2, none⟩ (.int .i64 z')) = U24 at *
            (try simp only [Act.put, List.setIfInBounds_toArray, List.set_cons_zero, List.set_cons_succ])
            refine wpAnyH_done (by kernel_rfl) ?_ _
            go_wp2_with fail
            go_meet
            exact ⟨g, h, rfl, rfl, ⟨bb, k_g, k_h, k_r⟩⟩
        · go_simp
          have n_qg := k_q.lt
          have n_pg := k_p.lt
          have n_rg := k_r.lt
          have n_hg := k_h.lt
          have n_wg := bb.size
          have k_q := k_q.alloc (.cells #[.int .u8 0, .bool false, .int .i64 0] 58)
          have k_p := k_p.alloc (.cells #[.int .u8 0, .bool false, .int .i64 0] 58)
          have k_r := k_r.alloc (.cells #[.int .u8 0, .bool false, .int .i64 0] 58)
          have k_h := k_h.alloc (.cells #[.int .u8 0, .bool false, .int .i64 0] 58)
          have k_g := Blk.new U20 58 #[.int .u8 0, .bool false, .int .i64 0]
          have bb := bb.alloc bb.size (.cells #[.int .u8 0, .bool false, .int .i64 0] 58)
          refine hK.out _ _ (mcells6 k_q k_p) (fun hHeld => ?_)
          clear hK K
          generalize U20.alloc (.cells #[.int .u8 0, .bool false, .int .i64 0] 58) = U25 at *
          generalize U20.heap.size = g at *
          have n_gh : h ≠ g := by omega
          have n_hg : g ≠ h := by omega
          (try simp only [Act.put, List.setIfInBounds_toArray, List.set_cons_zero, List.set_cons_succ])
          refine wpAnyH_ready (rs := [3]) (by kernel_rfl) (by simp) ?_
          refine AllReadyH.cons rfl (fun K hK => ?_) AllReadyH.nil
          · go_simp
            go_at_call 44
            (with_reducible refine (HCB.out _).mono ?_)
            rintro e U26 ⟨rfl, bq⟩
            have k_q := k_q.below bq k_q.lt
            have k_p := k_p.below bq k_p.lt
            have k_r := k_r.below bq k_r.lt
            have k_g := k_g.below bq k_g.lt
            have k_h := k_h.below bq k_h.lt
            have bb := bb.trans (bq.mono bb.size)
            clear bq
            refine hK.out _ _ (mcells6 k_q k_p) (fun hHeld => ?_)
            clear hK K
            (try simp only [Act.put, List.setIfInBounds_toArray, List.set_cons_zero, List.set_cons_succ])
            obtain ⟨x0, x1, x2⟩ := mcells k_g
            have z0 := k_g.frozen 0
            have z1 := k_g.frozen 1
            have z2 := k_g.frozen 2
            have l0 := k_g.lt
            refine wpAnyH_ready (rs := [6]) (by kernel_rfl) (by simp) ?_
            refine AllReadyH.cons rfl (fun K hK => ?_) AllReadyH.nil
            go_simp
            clear x0 x1 x2 z0 z1 z2 l0
            have k_g := k_g.mset3 (.int .u8 d) (.bool m) (.int .i64 z)
            have k_h := k_h.mfar3 g n_gh (.int .u8 d) (.bool m) (.int .i64 z)
            have k_q := k_q.mfar3 g (by omega) (.int .u8 d) (.bool m) (.int .i64 z)
            have k_p := k_p.mfar3 g (by omega) (.int .u8 d) (.bool m) (.int .i64 z)
            have k_r := k_r.mfar3 g (by omega) (.int .u8 d) (.bool m) (.int .i64 z)
            have bb := mbelow3 bb g (by omega) (.int .u8 d) (.bool m) (.int .i64 z)
            refine hK.out _ _ (mcells6 k_q k_p) (fun hHeld => ?_)
            clear hK K
            generalize (((U26.setCell ⟨g, 0, none⟩ (.int .u8 d)).setCell ⟨g, 1, none⟩ (.bool m)).setCell ⟨g, 2, none⟩ (.int .i64 z)) = U27 at *
            (try simp only [Act.put, List.setIfInBounds_toArray, List.set_cons_zero, List.set_cons_succ])
            obtain ⟨x0, x1, x2⟩ := mcells k_h
            have z0 := k_h.frozen 0
            have z1 := k_h.frozen 1
            have z2 := k_h.frozen 2
            have l0 := k_h.lt
            refine wpAnyH_ready (rs := [7]) (by kernel_rfl) (by simp) ?_
            refine AllReadyH.cons rfl (fun K hK => ?_) AllReadyH.nil
            go_simp
            clear x0 x1 x2 z0 z1 z2 l0
            have k_h := k_h.mset3 (.int .u8 d') (.bool m') (.int .i64 z')
            have k_g := k_g.mfar3 h n_hg (.int .u8 d') (.bool m') (.int .i64 z')
            have k_q := k_q.mfar3 h (by omega) (.int .u8 d') (.bool m') (.int .i64 z')
            have k_p := k_p.mfar3 h (by omega) (.int .u8 d') (.bool m') (.int .i64 z')
            have k_r := k_r.mfar3 h (by omega) (.int .u8 d') (.bool m') (.int .i64 z')
            have bb := mbelow3 bb h (by omega) (.int .u8 d') (.bool m') (.int .i64 z')
            refine hK.out _ _ (mcells6 k_q k_p) (fun hHeld => ?_)
            clear hK K
            generalize (((U27.setCell ⟨h, 0, none⟩ (.int .u8 d')).setCell ⟨h, 1, none⟩ (.bool m')).setCell ⟨h, 2, none⟩ (.int .i64 z')) = U28 at *
            (try simp only [Act.put, List.setIfInBounds_toArray, List.set_cons_zero, List.set_cons_succ])
            refine wpAnyH_done (by kernel_rfl) ?_ _
            go_wp2_with fail
            go_meet
            exact ⟨g, h, rfl, rfl, ⟨bb, k_g, k_h, k_r⟩⟩
    · go_simp
      have n_qg := k_q.lt
      have n_pg := k_p.lt
      have n_rg := k_r.lt
      have n_wg := bb.size
      have k_q := k_q.alloc (.cells #[.int .u8 0, .bool false, .int .i64 0] 58)
      have k_p := k_p.alloc (.cells #[.int .u8 0, .bool false, .int .i64 0] 58)
      have k_r := k_r.alloc (.cells #[.int .u8 0, .bool false, .int .i64 0] 58)
      have k_g := Blk.new D0 58 #[.int .u8 0, .bool false, .int .i64 0]
      have bb := bb.alloc bb.size (.cells #[.int .u8 0, .bool false, .int .i64 0] 58)
      refine hK.out _ _ (mcells6 k_q k_p) (fun hHeld => ?_)
      clear hK K
      generalize D0.alloc (.cells #[.int .u8 0, .bool false, .int .i64 0] 58) = U29 at *
      generalize D0.heap.size = g at *
      (try simp only [Act.put, List.setIfInBounds_toArray, List.set_cons_zero, List.set_cons_succ])
      refine wpAnyH_ready (rs := [1, 5]) (by kernel_rfl) (by simp) ?_
      refine AllReadyH.cons rfl (fun K hK => ?_) (AllReadyH.cons rfl (fun K hK => ?_) AllReadyH.nil)
      · go_simp
        go_at_call 44
        (with_reducible refine (HCA.out _).mono ?_)
        rintro e U30 ⟨rfl, bq⟩
        have k_q := k_q.below bq k_q.lt
        have k_p := k_p.below bq k_p.lt
        have k_r := k_r.below bq k_r.lt
        have k_g := k_g.below bq k_g.lt
        have bb := bb.trans (bq.mono bb.size)
        clear bq
        refine hK.out _ _ (mcells6 k_q k_p) (fun hHeld => ?_)
        clear hK K
        (try simp only [Act.put, List.setIfInBounds_toArray, List.set_cons_zero, List.set_cons_succ])
        refine wpAnyH_ready (rs := [3, 5]) (by kernel_rfl) (by simp) ?_
        refine AllReadyH.cons rfl (fun K hK => ?_) (AllReadyH.cons rfl (fun K hK => ?_) AllReadyH.nil)
        · go_simp
          go_at_call 44
          (with_reducible refine (HCB.out _).mono ?_)
          rintro e U31 ⟨rfl, bq⟩
          have k_q := k_q.below bq k_q.lt
          have k_p := k_p.below bq k_p.lt
          have k_r := k_r.below bq k_r.lt
          have k_g := k_g.below bq k_g.lt
          have bb := bb.trans (bq.mono bb.size)
          clear bq
          refine hK.out _ _ (mcells6 k_q k_p) (fun hHeld => ?_)
          clear hK K
          (try simp only [Act.put, List.setIfInBounds_toArray, List.set_cons_zero, List.set_cons_succ])
          refine wpAnyH_ready (rs := [5]) (by kernel_rfl) (by simp) ?_
          refine AllReadyH.cons rfl (fun K hK => ?_) AllReadyH.nil
          · go_simp
            have n_qh := k_q.lt
            have n_ph := k_p.lt
            have n_rh := k_r.lt
            have n_gh := k_g.lt
            have n_wh := bb.size
            have k_q := k_q.alloc (.cells #[.int .u8 0, .bool false, .int .i64 0] 58)
            have k_p := k_p.alloc (.cells #[.int .u8 0, .bool false, .int .i64 0] 58)
            have k_r := k_r.alloc (.cells #[.int .u8 0, .bool false, .int .i64 0] 58)
            have k_g := k_g.alloc (.cells #[.int .u8 0, .bool false, .int .i64 0] 58)
            have k_h := Blk.new U31 58 #[.int .u8 0, .bool false, .int .i64 0]
            have bb := bb.alloc bb.size (.cells #[.int .u8 0, .bool false, .int .i64 0] 58)
            refine hK.out _ _ (mcells6 k_q k_p) (fun hHeld => ?_)
            clear hK K
            generalize U31.alloc (.cells #[.int .u8 0, .bool false, .int .i64 0] 58) = U32 at *
            generalize U31.heap.size = h at *
            have n_hg : g ≠ h := by omega
            have n_gh : h ≠ g := by omega
            (try simp only [Act.put, List.setIfInBounds_toArray, List.set_cons_zero, List.set_cons_succ])
            obtain ⟨x0, x1, x2⟩ := mcells k_g
            have z0 := k_g.frozen 0
            have z1 := k_g.frozen 1
            have z2 := k_g.frozen 2
            have l0 := k_g.lt
            refine wpAnyH_ready (rs := [6]) (by kernel_rfl) (by simp) ?_
            refine AllReadyH.cons rfl (fun K hK => ?_) AllReadyH.nil
            go_simp
            clear x0 x1 x2 z0 z1 z2 l0
            have k_g := k_g.mset3 (.int .u8 d) (.bool m) (.int .i64 z)
            have k_h := k_h.mfar3 g n_gh (.int .u8 d) (.bool m) (.int .i64 z)
            have k_q := k_q.mfar3 g (by omega) (.int .u8 d) (.bool m) (.int .i64 z)
            have k_p := k_p.mfar3 g (by omega) (.int .u8 d) (.bool m) (.int .i64 z)
            have k_r := k_r.mfar3 g (by omega) (.int .u8 d) (.bool m) (.int .i64 z)
            have bb := mbelow3 bb g (by omega) (.int .u8 d) (.bool m) (.int .i64 z)
            refine hK.out _ _ (mcells6 k_q k_p) (fun hHeld => ?_)
            clear hK K
            generalize (((U32.setCell ⟨g, 0, none⟩ (.int .u8 d)).setCell ⟨g, 1, none⟩ (.bool m)).setCell ⟨g, 2, none⟩ (.int .i64 z)) = U33 at *
            (try simp only [Act.put, List.setIfInBounds_toArray, List.set_cons_zero, List.set_cons_succ])
            obtain ⟨x0, x1, x2⟩ := mcells k_h
            have z0 := k_h.frozen 0
            have z1 := k_h.frozen 1
            have z2 := k_h.frozen 2
            have l0 := k_h.lt
            refine wpAnyH_ready (rs := [7]) (by kernel_rfl) (by simp) ?_
            refine AllReadyH.cons rfl (fun K hK => ?_) AllReadyH.nil
            go_simp
            clear x0 x1 x2 z0 z1 z2 l0
            have k_h := k_h.mset3 (.int .u8 d') (.bool m') (.int .i64 z')
            have k_g := k_g.mfar3 h n_hg (.int .u8 d') (.bool m') (.int .i64 z')
            have k_q := k_q.mfar3 h (by omega) (.int .u8 d') (.bool m') (.int .i64 z')
            have k_p := k_p.mfar3 h (by omega) (.int .u8 d') (.bool m') (.int .i64 z')
            have k_r := k_r.mfar3 h (by omega) (.int .u8 d') (.bool m') (.int .i64 z')
            have bb := mbelow3 bb h (by omega) (.int .u8 d') (.bool m') (.int .i64 z')
            refine hK.out _ _ (mcells6 k_q k_p) (fun hHeld => ?_)
            clear hK K
            generalize (((U33.setCell ⟨h, 0, none⟩ (.int .u8 d')).setCell ⟨h, 1, none⟩ (.bool m')).setCell ⟨h, 2, none⟩ (.int .i64 z')) = U34 at *
            (try simp only [Act.put, List.setIfInBounds_toArray, List.set_cons_zero, List.set_cons_succ])
            refine wpAnyH_done (by kernel_rfl) ?_ _
            go_wp2_with fail
            go_meet
            exact ⟨g, h, rfl, rfl, ⟨bb, k_g, k_h, k_r⟩⟩
        · go_simp
          have n_qh := k_q.lt
          have n_ph := k_p.lt
          have n_rh := k_r.lt
          have n_gh := k_g.lt
          have n_wh := bb.size
          have k_q := k_q.alloc (.cells #[.int .u8 0, .bool false, .int .i64 0] 58)
          have k_p := k_p.alloc (.cells #[.int .u8 0, .bool false, .int .i64 0] 58)
          have k_r := k_r.alloc (.cells #[.int .u8 0, .bool false, .int .i64 0] 58)
          have k_g := k_g.alloc (.cells #[.int .u8 0, .bool false, .int .i64 0] 58)
          have k_h := Blk.new U30 58 #[.int .u8 0, .bool false, .int .i64 0]
          have bb := bb.alloc bb.size (.cells #[.int .u8 0, .bool false, .int .i64 0] 58)
          refine hK.out _ _ (mcells6 k_q k_p) (fun hHeld => ?_)
          clear hK K
          generalize U30.alloc (.cells #[.int .u8 0, .bool false, .int .i64 0] 58) = U35 at *
          generalize U30.heap.size = h at *
          have n_hg : g ≠ h := by omega
          have n_gh : h ≠ g := by omega
          (try simp only [Act.put, List.setIfInBounds_toArray, List.set_cons_zero, List.set_cons_succ])
          refine wpAnyH_ready (rs := [3]) (by kernel_rfl) (by simp) ?_
          refine AllReadyH.cons rfl (fun K hK => ?_) AllReadyH.nil
          · go_simp
            go_at_call 44
            (with_reducible refine (HCB.out _).mono ?_)
            rintro e U36 ⟨rfl, bq⟩
            have k_q := k_q.below bq k_q.lt
            have k_p := k_p.below bq k_p.lt
            have k_r := k_r.below bq k_r.lt
            have k_g := k_g.below bq k_g.lt
            have k_h := k_h.below bq k_h.lt
            have bb := bb.trans (bq.mono bb.size)
            clear bq
            refine hK.out _ _ (mcells6 k_q k_p) (fun hHeld => ?_)
            clear hK K
            (try simp only [Act.put, List.setIfInBounds_toArray, List.set_cons_zero, List.set_cons_succ])
            obtain ⟨x0, x1, x2⟩ := mcells k_g
            have z0 := k_g.frozen 0
            have z1 := k_g.frozen 1
            have z2 := k_g.frozen 2
            have l0 := k_g.lt
            refine wpAnyH_ready (rs := [6]) (by kernel_rfl) (by simp) ?_
            refine AllReadyH.cons rfl (fun K hK => ?_) AllReadyH.nil
            go_simp
            clear x0 x1 x2 z0 z1 z2 l0
            have k_g := k_g.mset3 (.int .u8 d) (.bool m) (.int .i64 z)
            have k_h := k_h.mfar3 g n_gh (.int .u8 d) (.bool m) (.int .i64 z)
            have k_q := k_q.mfar3 g (by omega) (.int .u8 d) (.bool m) (.int .i64 z)
            have k_p := k_p.mfar3 g (by omega) (.int .u8 d) (.bool m) (.int .i64 z)
            have k_r := k_r.mfar3 g (by omega) (.int .u8 d) (.bool m) (.int .i64 z)
            have bb := mbelow3 bb g (by omega) (.int .u8 d) (.bool m) (.int .i64 z)
            refine hK.out _ _ (mcells6 k_q k_p) (fun hHeld => ?_)
            clear hK K
            generalize (((U36.setCell ⟨g, 0, none⟩ (.int .u8 d)).setCell ⟨g, 1, none⟩ (.bool m)).setCell ⟨g, 2, none⟩ (.int .i64 z)) = U37 at *
            (try simp only [Act.put, List.setIfInBounds_toArray, List.set_cons_zero, List.set_cons_succ])
            obtain ⟨x0, x1, x2⟩ := mcells k_h
            have z0 := k_h.frozen 0
            have z1 := k_h.frozen 1
            have z2 := k_h.frozen 2
            have l0 := k_h.lt
            refine wpAnyH_ready (rs := [7]) (by kernel_rfl) (by simp) ?_
            refine AllReadyH.cons rfl (fun K hK => ?_) AllReadyH.nil
            go_simp
            clear x0 x1 x2 z0 z1 z2 l0
            have k_h := k_h.mset3 (.int .u8 d') (.bool m') (.int .i64 z')
            have k_g := k_g.mfar3 h n_hg (.int .u8 d') (.bool m') (.int .i64 z')
            have k_q := k_q.mfar3 h (by omega) (.int .u8 d') (.bool m') (.int .i64 z')
            have k_p := k_p.mfar3 h (by omega) (.int .u8 d') (.bool m') (.int .i64 z')
            have k_r := k_r.mfar3 h (by omega) (.int .u8 d') (.bool m') (.int .i64 z')
            have bb := mbelow3 bb h (by omega) (.int .u8 d') (.bool m') (.int .i64 z')
            refine hK.out _ _ (mcells6 k_q k_p) (fun hHeld => ?_)
            clear hK K
            generalize (((U37.setCell ⟨h, 0, none⟩ (.int .u8 d')).setCell ⟨h, 1, none⟩ (.bool m')).setCell ⟨h, 2, none⟩ (.int .i64 z')) = U38 at *
            (try simp only [Act.put, List.setIfInBounds_toArray, List.set_cons_zero, List.set_cons_succ])
            refine wpAnyH_done (by kernel_rfl) ?_ _
            go_wp2_with fail
            go_meet
            exact ⟨g, h, rfl, rfl, ⟨bb, k_g, k_h, k_r⟩⟩
      · go_simp
        have n_qh := k_q.lt
        have n_ph := k_p.lt
        have n_rh := k_r.lt
        have n_gh := k_g.lt
        have n_wh := bb.size
        have k_q := k_q.alloc (.cells #[.int .u8 0, .bool false, .int .i64 0] 58)
        have k_p := k_p.alloc (.cells #[.int .u8 0, .bool false, .int .i64 0] 58)
        have k_r := k_r.alloc (.cells #[.int .u8 0, .bool false, .int .i64 0] 58)
        have k_g := k_g.alloc (.cells #[.int .u8 0, .bool false, .int .i64 0] 58)
        have k_h := Blk.new U29 58 #[.int .u8 0, .bool false, .int .i64 0]
        have bb := bb.alloc bb.size (.cells #[.int .u8 0, .bool false, .int .i64 0] 58)
        refine hK.out _ _ (mcells6 k_q k_p) (fun hHeld => ?_)
        clear hK K
        generalize U29.alloc (.cells #[.int .u8 0, .bool false, .int .i64 0] 58) = U39 at *
        generalize U29.heap.size = h at *
        have n_hg : g ≠ h := by omega
        have n_gh : h ≠ g := by omega
        (try simp only [Act.put, List.setIfInBounds_toArray, List.set_cons_zero, List.set_cons_succ])
        refine wpAnyH_ready (rs := [1]) (by kernel_rfl) (by simp) ?_
        refine AllReadyH.cons rfl (fun K hK => ?_) AllReadyH.nil
        · go_simp
          go_at_call 44
          (with_reducible refine (HCA.out _).mono ?_)
          rintro e U40 ⟨rfl, bq⟩
          have k_q := k_q.below bq k_q.lt
          have k_p := k_p.below bq k_p.lt
          have k_r := k_r.below bq k_r.lt
          have k_g := k_g.below bq k_g.lt
          have k_h := k_h.below bq k_h.lt
          have bb := bb.trans (bq.mono bb.size)
          clear bq
          refine hK.out _ _ (mcells6 k_q k_p) (fun hHeld => ?_)
          clear hK K
          (try simp only [Act.put, List.setIfInBounds_toArray, List.set_cons_zero, List.set_cons_succ])
          refine wpAnyH_ready (rs := [3]) (by kernel_rfl) (by simp) ?_
          refine AllReadyH.cons rfl (fun K hK => ?_) AllReadyH.nil
          · go_simp
            go_at_call 44
            (with_reducible refine (HCB.out _).mono ?_)
            rintro e U41 ⟨rfl, bq⟩
            have k_q := k_q.below bq k_q.lt
            have k_p := k_p.below bq k_p.lt
            have k_r := k_r.below bq k_r.lt
            have k_g := k_g.below bq k_g.lt
            have k_h := k_h.below bq k_h.lt
            have bb := bb.trans (bq.mono bb.size)
            clear bq
            refine hK.out _ _ (mcells6 k_q k_p) (fun hHeld => ?_)
            clear hK K
            (try simp only [Act.put, List.setIfInBounds_toArray, List.set_cons_zero, List.set_cons_succ])
            obtain ⟨x0, x1, x2⟩ := mcells k_g
            have z0 := k_g.frozen 0
            have z1 := k_g.frozen 1
            have z2 := k_g.frozen 2
            have l0 := k_g.lt
            refine wpAnyH_ready (rs := [6]) (by kernel_rfl) (by simp) ?_
            refine AllReadyH.cons rfl (fun K hK => ?_) AllReadyH.nil
            go_simp
            clear x0 x1 x2 z0 z1 z2 l0
            have k_g := k_g.mset3 (.int .u8 d) (.bool m) (.int .i64 z)
            have k_h := k_h.mfar3 g n_gh (.int .u8 d) (.bool m) (.int .i64 z)
            have k_q := k_q.mfar3 g (by omega) (.int .u8 d) (.bool m) (.int .i64 z)
            have k_p := k_p.mfar3 g (by omega) (.int .u8 d) (.bool m) (.int .i64 z)
            have k_r := k_r.mfar3 g (by omega) (.int .u8 d) (.bool m) (.int .i64 z)
            have bb := mbelow3 bb g (by omega) (.int .u8 d) (.bool m) (.int .i64 z)
            refine hK.out _ _ (mcells6 k_q k_p) (fun hHeld => ?_)
            clear hK K
            generalize (((U41.setCell ⟨g, 0, none⟩ (.int .u8 d)).setCell ⟨g, 1, none⟩ (.bool m)).setCell ⟨g, 2, none⟩ (.int .i64 z)) = U42 at *
            (try simp only [Act.put, List.setIfInBounds_toArray, List.set_cons_zero, List.set_cons_succ])
            obtain ⟨x0, x1, x2⟩ := mcells k_h
            have z0 := k_h.frozen 0
            have z1 := k_h.frozen 1
            have z2 := k_h.frozen 2
            have l0 := k_h.lt
            refine wpAnyH_ready (rs := [7]) (by kernel_rfl) (by simp) ?_
            refine AllReadyH.cons rfl (fun K hK => ?_) AllReadyH.nil
            go_simp
            clear x0 x1 x2 z0 z1 z2 l0
            have k_h := k_h.mset3 (.int .u8 d') (.bool m') (.int .i64 z')
            have k_g := k_g.mfar3 h n_hg (.int .u8 d') (.bool m') (.int .i64 z')
            have k_q := k_q.mfar3 h (by omega) (.int .u8 d') (.bool m') (.int .i64 z')
            have k_p := k_p.mfar3 h (by omega) (.int .u8 d') (.bool m') (.int .i64 z')
            have k_r := k_r.mfar3 h (by omega) (.int .u8 d') (.bool m') (.int .i64 z')
            have bb := mbelow3 bb h (by omega) (.int .u8 d') (.bool m') (.int .i64 z')
            refine hK.out _ _ (mcells6 k_q k_p) (fun hHeld => ?_)
            clear hK K
            generalize (((U42.setCell ⟨h, 0, none⟩ (.int .u8 d')).setCell ⟨h, 1, none⟩ (.bool m')).setCell ⟨h, 2, none⟩ (.int .i64 z')) = U43 at *
            (try simp only [Act.put, List.setIfInBounds_toArray, List.set_cons_zero, List.set_cons_succ])
            refine wpAnyH_done (by kernel_rfl) ?_ _
            go_wp2_with fail
            go_meet
            exact ⟨g, h, rfl, rfl, ⟨bb, k_g, k_h, k_r⟩⟩
    · go_simp
      have n_qh := k_q.lt
      have n_ph := k_p.lt
      have n_rh := k_r.lt
      have n_wh := bb.size
      have k_q := k_q.alloc (.cells #[.int .u8 0, .bool false, .int .i64 0] 58)
      have k_p := k_p.alloc (.cells #[.int .u8 0, .bool false, .int .i64 0] 58)
      have k_r := k_r.alloc (.cells #[.int .u8 0, .bool false, .int .i64 0] 58)
      have k_h := Blk.new D0 58 #[.int .u8 0, .bool false, .int .i64 0]
      have bb := bb.alloc bb.size (.cells #[.int .u8 0, .bool false, .int .i64 0] 58)
      refine hK.out _ _ (mcells6 k_q k_p) (fun hHeld => ?_)
      clear hK K
      generalize D0.alloc (.cells #[.int .u8 0, .bool false, .int .i64 0] 58) = U44 at *
      generalize D0.heap.size = h at *
      (try simp only [Act.put, List.setIfInBounds_toArray, List.set_cons_zero, List.set_cons_succ])
      refine wpAnyH_ready (rs := [1, 4]) (by kernel_rfl) (by simp) ?_
      refine AllReadyH.cons rfl (fun K hK => ?_) (AllReadyH.cons rfl (fun K hK => ?_) AllReadyH.nil)
      · go_simp
        go_at_call 44
        (with_reducible refine (HCA.out _).mono ?_)
        rintro e U45 ⟨rfl, bq⟩
        have k_q := k_q.below bq k_q.lt
        have k_p := k_p.below bq k_p.lt
        have k_r := k_r.below bq k_r.lt
        have k_h := k_h.below bq k_h.lt
        have bb := bb.trans (bq.mono bb.size)
        clear bq
        refine hK.out _ _ (mcells6 k_q k_p) (fun hHeld => ?_)
        clear hK K
        (try simp only [Act.put, List.setIfInBounds_toArray, List.set_cons_zero, List.set_cons_succ])
        refine wpAnyH_ready (rs := [3, 4]) (by kernel_rfl) (by simp) ?_
        refine AllReadyH.cons rfl (fun K hK => ?_) (AllReadyH.cons rfl (fun K hK => ?_) AllReadyH.nil)
        · go_simp
          go_at_call 44
          (with_reducible refine (HCB.out _).mono ?_)
          rintro e U46 ⟨rfl, bq⟩
          have k_q := k_q.below bq k_q.lt
          have k_p := k_p.below bq k_p.lt
          have k_r := k_r.below bq k_r.lt
          have k_h := k_h.below bq k_h.lt
          have bb := bb.trans (bq.mono bb.size)
          clear bq
          refine hK.out _ _ (mcells6 k_q k_p) (fun hHeld => ?_)
          clear hK K
          (try simp only [Act.put, List.setIfInBounds_toArray, List.set_cons_zero, List.set_cons_succ])
          refine wpAnyH_ready (rs := [4]) (by kernel_rfl) (by simp) ?_
          refine AllReadyH.cons rfl (fun K hK => ?_) AllReadyH.nil
          · go_simp
            have n_qg := k_q.lt
            have n_pg := k_p.lt
            have n_rg := k_r.lt
            have n_hg := k_h.lt
            have n_wg := bb.size
            have k_q := k_q.alloc (.cells #[.int .u8 0, .bool false, .int .i64 0] 58)
            have k_p := k_p.alloc (.cells #[.int .u8 0, .bool false, .int .i64 0] 58)
            have k_r := k_r.alloc (.cells #[.int .u8 0, .bool false, .int .i64 0] 58)
            have k_h := k_h.alloc (.cells #[.int .u8 0, .bool false, .int .i64 0] 58)
            have k_g := Blk.new U46 58 #[.int .u8 0, .bool false, .int .i64 0]
            have bb := bb.alloc bb.size (.cells #[.int .u8 0, .bool false, .int .i64 0] 58)
            refine hK.out _ _ (mcells6 k_q k_p) (fun hHeld => ?_)
            clear hK K
            generalize U46.alloc (.cells #[.int .u8 0, .bool false, .int .i64 0] 58) = U47 at *
            generalize U46.heap.size = g at *
            have n_gh : h ≠ g := by omega
            have n_hg : g ≠ h := by omega
            (try simp only [Act.put, List.setIfInBounds_toArray, List.set_cons_zero, List.set_cons_succ])
            obtain ⟨x0, x1, x2⟩ := mcells k_g
            have z0 := k_g.frozen 0
            have z1 := k_g.frozen 1
            have z2 := k_g.frozen 2
            have l0 := k_g.lt
            refine wpAnyH_ready (rs := [6]) (by kernel_rfl) (by simp) ?_
            refine AllReadyH.cons rfl (fun K hK => ?_) AllReadyH.nil
            go_simp
            clear x0 x1 x2 z0 z1 z2 l0
            have k_g := k_g.mset3 (.int .u8 d) (.bool m) (.int .i64 z)
            have k_h := k_h.mfar3 g n_gh (.int .u8 d) (.bool m) (.int .i64 z)
            have k_q := k_q.mfar3 g (by omega) (.int .u8 d) (.bool m) (.int .i64 z)
            have k_p := k_p.mfar3 g (by omega) (.int .u8 d) (.bool m) (.int .i64 z)
            have k_r := k_r.mfar3 g (by omega) (.int .u8 d) (.bool m) (.int .i64 z)
            have bb := mbelow3 bb g (by omega) (.int .u8 d) (.bool m) (.int .i64 z)
            refine hK.out _ _ (mcells6 k_q k_p) (fun hHeld => ?_)
            clear hK K
            generalize (((U47.setCell ⟨g, 0, none⟩ (.int .u8 d)).setCell ⟨g, 1, none⟩ (.bool m)).setCell ⟨g, 2, none⟩ (.int .i64 z)) = U48 at *
            (try simp only [Act.put, List.setIfInBounds_toArray, List.set_cons_zero, List.set_cons_succ])
            obtain ⟨x0, x1, x2⟩ := mcells k_h
            have z0 := k_h.frozen 0
            have z1 := k_h.frozen 1
            have z2 := k_h.frozen 2
            have l0 := k_h.lt
            refine wpAnyH_ready (rs := [7]) (by kernel_rfl) (by simp) ?_
            refine AllReadyH.cons rfl (fun K hK => ?_) AllReadyH.nil
            go_simp
            clear x0 x1 x2 z0 z1 z2 l0
            have k_h := k_h.mset3 (.int .u8 d') (.bool m') (.int .i64 z')
            have k_g := k_g.mfar3 h n_hg (.int .u8 d') (.bool m') (.int .i64 z')
            have k_q := k_q.mfar3 h (by omega) (.int .u8 d') (.bool m') (.int .i64 z')
            have k_p := k_p.mfar3 h (by omega) (.int .u8 d') (.bool m') (.int .i64 z')
            have k_r := k_r.mfar3 h (by omega) (.int .u8 d') (.bool m') (.int .i64 z')
            have bb := mbelow3 bb h (by omega) (.int .u8 d') (.bool m') (.int .i64 z')
            refine hK.out _ _ (mcells6 k_q k_p) (fun hHeld => ?_)
            clear hK K
            generalize (((U48.setCell ⟨h, 0, none⟩ (.int .u8 d')).setCell ⟨h, 1, none⟩ (.bool m')).setCell ⟨h, 2, none⟩ (.int .i64 z')) = U49 at *
            (try simp only [Act.put, List.setIfInBounds_toArray, List.set_cons_zero, List.set_cons_succ])
            refine wpAnyH_done (by kernel_rfl) ?_ _
            go_wp2_with fail
            go_meet
            exact ⟨g, h, rfl, rfl, ⟨bb, k_g, k_h, k_r⟩⟩
        · go_simp
          have n_qg := k_q.lt
          have n_pg := k_p.lt
          have n_rg := k_r.lt
          have n_hg := k_h.lt
          have n_wg := bb.size
          have k_q := k_q.alloc (.cells #[.int .u8 0, .bool false, .int .i64 0] 58)
          have k_p := k_p.alloc (.cells #[.int .u8 0, .bool false, .int .i64 0] 58)
          have k_r := k_r.alloc (.cells #[.int .u8 0, .bool false, .int .i64 0] 58)
          have k_h := k_h.alloc (.cells #[.int .u8 0, .bool false, .int .i64 0] 58)
          have k_g := Blk.new U45 58 #[.int .u8 0, .bool false, .int .i64 0]
          have bb := bb.alloc bb.size (.cells #[.int .u8 0, .bool false, .int .i64 0] 58)
          refine hK.out _ _ (mcells6 k_q k_p) (fun hHeld => ?_)
          clear hK K
          generalize U45.alloc (.cells #[.int .u8 0, .bool false, .int .i64 0] 58) = U50 at *
          generalize U45.heap.size = g at *
          have n_gh : h ≠ g := by omega
          have n_hg : g ≠ h := by omega
          (try simp only [Act.put, List.setIfInBounds_toArray, List.set_cons_zero, List.set_cons_succ])
          refine wpAnyH_ready (rs := [3]) (by kernel_rfl) (by simp) ?_
          refine AllReadyH.cons rfl (fun K hK => ?_) AllReadyH.nil
          · go_simp
            go_at_call 44
            (with_reducible refine (HCB.out _).mono ?_)
            rintro e U51 ⟨rfl, bq⟩
            have k_q := k_q.below bq k_q.lt
            have k_p := k_p.below bq k_p.lt
            have k_r := k_r.below bq k_r.lt
            have k_g := k_g.below bq k_g.lt
            have k_h := k_h.below bq k_h.lt
            have bb := bb.trans (bq.mono bb.size)
            clear bq
            refine hK.out _ _ (mcells6 k_q k_p) (fun hHeld => ?_)
            clear hK K
            (try simp only [Act.put, List.setIfInBounds_toArray, List.set_cons_zero, List.set_cons_succ])
            obtain ⟨x0, x1, x2⟩ := mcells k_g
            have z0 := k_g.frozen 0
            have z1 := k_g.frozen 1
            have z2 := k_g.frozen 2
            have l0 := k_g.lt
            refine wpAnyH_ready (rs := [6]) (by kernel_rfl) (by simp) ?_
            refine AllReadyH.cons rfl (fun K hK => ?_) AllReadyH.nil
            go_simp
            clear x0 x1 x2 z0 z1 z2 l0
            have k_g := k_g.mset3 (.int .u8 d) (.bool m) (.int .i64 z)
            have k_h := k_h.mfar3 g n_gh (.int .u8 d) (.bool m) (.int .i64 z)
            have k_q := k_q.mfar3 g (by omega) (.int .u8 d) (.bool m) (.int .i64 z)
            have k_p := k_p.mfar3 g (by omega) (.int .u8 d) (.bool m) (.int .i64 z)
            have k_r := k_r.mfar3 g (by omega) (.int .u8 d) (.bool m) (.int .i64 z)
            have bb := mbelow3 bb g (by omega) (.int .u8 d) (.bool m) (.int .i64 z)
            refine hK.out _ _ (mcells6 k_q k_p) (fun hHeld => ?_)
            clear hK K
            generalize (((U51.setCell ⟨g, 0, none⟩ (.int .u8 d)).setCell ⟨g, 1, none⟩ (.bool m)).setCell ⟨g, 2, none⟩ (.int .i64 z)) = U52 at *
            (try simp only [Act.put, List.setIfInBounds_toArray, List.set_cons_zero, List.set_cons_succ])
            obtain ⟨x0, x1, x2⟩ := mcells k_h
            have z0 := k_h.frozen 0
            have z1 := k_h.frozen 1
            have z2 := k_h.frozen 2
            have l0 := k_h.lt
            refine wpAnyH_ready (rs := [7]) (by kernel_rfl) (by simp) ?_
            refine AllReadyH.cons rfl (fun K hK => ?_) AllReadyH.nil
            go_simp
            clear x0 x1 x2 z0 z1 z2 l0
            have k_h := k_h.mset3 (.int .u8 d') (.bool m') (.int .i64 z')
            have k_g := k_g.mfar3 h n_hg (.int .u8 d') (.bool m') (.int .i64 z')
            have k_q := k_q.mfar3 h (by omega) (.int .u8 d') (.bool m') (.int .i64 z')
            have k_p := k_p.mfar3 h (by omega) (.int .u8 d') (.bool m') (.int .i64 z')
            have k_r := k_r.mfar3 h (by omega) (.int .u8 d') (.bool m') (.int .i64 z')
            have bb := mbelow3 bb h (by omega) (.int .u8 d') (.bool m') (.int .i64 z')
            refine hK.out _ _ (mcells6 k_q k_p) (fun hHeld => ?_)
            clear hK K
            generalize (((U52.setCell ⟨h, 0, none⟩ (.int .u8 d')).setCell ⟨h, 1, none⟩ (.bool m')).setCell ⟨h, 2, none⟩ (.int .i64 z')) = U53 at *
            (try simp only [Act.put, List.setIfInBounds_toArray, List.set_cons_zero, List.set_cons_succ])
            refine wpAnyH_done (by kernel_rfl) ?_ _
            go_wp2_with fail
            go_meet
            exact ⟨g, h, rfl, rfl, ⟨bb, k_g, k_h, k_r⟩⟩
      · go_simp
        have n_qg := k_q.lt
        have n_pg := k_p.lt
        have n_rg := k_r.lt
        have n_hg := k_h.lt
        have n_wg := bb.size
        have k_q := k_q.alloc (.cells #[.int .u8 0, .bool false, .int .i64 0] 58)
        have k_p := k_p.alloc (.cells #[.int .u8 0, .bool false, .int .i64 0] 58)
        have k_r := k_r.alloc (.cells #[.int .u8 0, .bool false, .int .i64 0] 58)
        have k_h := k_h.alloc (.cells #[.int .u8 0, .bool false, .int .i64 0] 58)
        have k_g := Blk.new U44 58 #[.int .u8 0, .bool false, .int .i64 0]
        have bb := bb.alloc bb.size (.cells #[.int .u8 0, .bool false, .int .i64 0] 58)
        refine hK.out _ _ (mcells6 k_q k_p) (fun hHeld => ?_)
        clear hK K
        generalize U44.alloc (.cells #[.int .u8 0, .bool false, .int .i64 0] 58) = U54 at *
        generalize U44.heap.size = g at *
        have n_gh : h ≠ g := by omega
        have n_hg : g ≠ h := by omega
        (try simp only [Act.put, List.setIfInBounds_toArray, List.set_cons_zero, List.set_cons_succ])
        refine wpAnyH_ready (rs := [1]) (by kernel_rfl) (by simp) ?_
        refine AllReadyH.cons rfl (fun K hK => ?_) AllReadyH.nil
        · go_simp
          go_at_call 44
          (with_reducible refine (HCA.out _).mono ?_)
          rintro e U55 ⟨rfl, bq⟩
          have k_q := k_q.below bq k_q.lt
          have k_p := k_p.below bq k_p.lt
          have k_r := k_r.below bq k_r.lt
          have k_g := k_g.below bq k_g.lt
          have k_h := k_h.below bq k_h.lt
          have bb := bb.trans (bq.mono bb.size)
          clear bq
          refine hK.out _ _ (mcells6 k_q k_p) (fun hHeld => ?_)
          clear hK K
          (try simp only [Act.put, List.setIfInBounds_toArray, List.set_cons_zero, List.set_cons_succ])
          refine wpAnyH_ready (rs := [3]) (by kernel_rfl) (by simp) ?_
          refine AllReadyH.cons rfl (fun K hK => ?_) AllReadyH.nil
          · go_simp
            go_at_call 44
            (with_reducible refine (HCB.out _).mono ?_)
            rintro e U56 ⟨rfl, bq⟩
            have k_q := k_q.below bq k_q.lt
            have k_p := k_p.below bq k_p.lt
            have k_r := k_r.below bq k_r.lt
            have k_g := k_g.below bq k_g.lt
            have k_h := k_h.below bq k_h.lt
            have bb := bb.trans (bq.mono bb.size)
            clear bq
            refine hK.out _ _ (mcells6 k_q k_p) (fun hHeld => ?_)
            clear hK K
            (try simp only [Act.put, List.setIfInBounds_toArray, List.set_cons_zero, List.set_cons_succ])
            obtain ⟨x0, x1, x2⟩ := mcells k_g
            have z0 := k_g.frozen 0
            have z1 := k_g.frozen 1
            have z2 := k_g.frozen 2
            have l0 := k_g.lt
            refine wpAnyH_ready (rs := [6]) (by kernel_rfl) (by simp) ?_
            refine AllReadyH.cons rfl (fun K hK => ?_) AllReadyH.nil
            go_simp
            clear x0 x1 x2 z0 z1 z2 l0
            have k_g := k_g.mset3 (.int .u8 d) (.bool m) (.int .i64 z)
            have k_h := k_h.mfar3 g n_gh (.int .u8 d) (.bool m) (.int .i64 z)
            have k_q := k_q.mfar3 g (by omega) (.int .u8 d) (.bool m) (.int .i64 z)
            have k_p := k_p.mfar3 g (by omega) (.int .u8 d) (.bool m) (.int .i64 z)
            have k_r := k_r.mfar3 g (by omega) (.int .u8 d) (.bool m) (.int .i64 z)
            have bb := mbelow3 bb g (by omega) (.int .u8 d) (.bool m) (.int .i64 z)
            refine hK.out _ _ (mcells6 k_q k_p) (fun hHeld => ?_)
            clear hK K
            generalize (((U56.setCell ⟨g, 0, none⟩ (.int .u8 d)).setCell ⟨g, 1, none⟩ (.bool m)).setCell ⟨g, 2, none⟩ (.int .i64 z)) = U57 at *
            (try simp only [Act.put, List.setIfInBounds_toArray, List.set_cons_zero, List.set_cons_succ])
            obtain ⟨x0, x1, x2⟩ := mcells k_h
            have z0 := k_h.frozen 0
            have z1 := k_h.frozen 1
            have z2 := k_h.frozen 2
            have l0 := k_h.lt
            refine wpAnyH_ready (rs := [7]) (by kernel_rfl) (by simp) ?_
            refine AllReadyH.cons rfl (fun K hK => ?_) AllReadyH.nil
            go_simp
            clear x0 x1 x2 z0 z1 z2 l0
            have k_h := k_h.mset3 (.int .u8 d') (.bool m') (.int .i64 z')
            have k_g := k_g.mfar3 h n_hg (.int .u8 d') (.bool m') (.int .i64 z')
            have k_q := k_q.mfar3 h (by omega) (.int .u8 d') (.bool m') (.int .i64 z')
            have k_p := k_p.mfar3 h (by omega) (.int .u8 d') (.bool m') (.int .i64 z')
            have k_r := k_r.mfar3 h (by omega) (.int .u8 d') (.bool m') (.int .i64 z')
            have bb := mbelow3 bb h (by omega) (.int .u8 d') (.bool m') (.int .i64 z')
            refine hK.out _ _ (mcells6 k_q k_p) (fun hHeld => ?_)
            clear hK K
            generalize (((U57.setCell ⟨h, 0, none⟩ (.int .u8 d')).setCell ⟨h, 1, none⟩ (.bool m')).setCell ⟨h, 2, none⟩ (.int .i64 z')) = U58 at *
            (try simp only [Act.put, List.setIfInBounds_toArray, List.set_cons_zero, List.set_cons_succ])
            refine wpAnyH_done (by kernel_rfl) ?_ _
            go_wp2_with fail
            go_meet
            exact ⟨g, h, rfl, rfl, ⟨bb, k_g, k_h, k_r⟩⟩
  case rest =>
  obtain ⟨g, h, rfl, rfl, ⟨bb, k_g, k_h, k_r⟩⟩ := hcut
  have HR := HR.out
  have HL := HL.out
  have x_g0 := c30 k_g
  have x_g1 := c31 k_g
  have x_g2 := c32 k_g
  have l_g := k_g.lt
  have x_h0 := c30 k_h
  have x_h1 := c31 k_h
  have x_h2 := c32 k_h
  have l_h := k_h.lt
  have x_r0 := c30 k_r
  have x_r1 := c31 k_r
  have x_r2 := c32 k_r
  have l_r := k_r.lt
  cases od
  · have HRR := Lib.hid (HR rfl)
    clear HR HL
    go_wp2_with fail
    refine (HRR.out _).mono ?_
    rintro e w3 ⟨rfl, b3⟩
    clear x_g0 x_g1 x_g2 l_g x_h0 x_h1 x_h2 l_h x_r0 x_r1 x_r2 l_r
    have k_g := k_g.below b3 k_g.lt
    have k_h := k_h.below b3 k_h.lt
    have k_r := k_r.below b3 k_r.lt
    have bb := bb.trans (b3.mono bb.size)
    have x_g0 : w3.cell? ⟨g, 0, none⟩ = some (.int .u8 d) := by rw [k_g.cell]; rfl
    have x_g1 : w3.cell? ⟨g, 1, none⟩ = some (.bool m) := by rw [k_g.cell]; rfl
    have x_g2 : w3.cell? ⟨g, 2, none⟩ = some (.int .i64 z) := by rw [k_g.cell]; rfl
    have l_g := k_g.lt
    have x_h0 : w3.cell? ⟨h, 0, none⟩ = some (.int .u8 d') := by rw [k_h.cell]; rfl
    have x_h1 : w3.cell? ⟨h, 1, none⟩ = some (.bool m') := by rw [k_h.cell]; rfl
    have x_h2 : w3.cell? ⟨h, 2, none⟩ = some (.int .i64 z') := by rw [k_h.cell]; rfl
    have l_h := k_h.lt
    have x_r0 : w3.cell? ⟨w.heap.size + 2, 0, none⟩ = some (.int .i64 0) := by rw [k_r.cell]; rfl
    have x_r1 : w3.cell? ⟨w.heap.size + 2, 1, none⟩ = some (.int .i64 0) := by rw [k_r.cell]; rfl
    have x_r2 : w3.cell? ⟨w.heap.size + 2, 2, none⟩ = some (.string ⟨#[]⟩) := by rw [k_r.cell]; rfl
    have l_r := k_r.lt
    have z_r0 := k_r.frozen 0
    have z_r1 := k_r.frozen 1
    have z_r2 := k_r.frozen 2
    go_wp2
    exact bodyPost_ret (v := (.tuple #[VS K N Z, .int .i64 e1])) (by simp [results, Tryd.results28, go_sem, x_r0, x_r1, x_r2, l_r]) rfl ⟨rfl, (((bb).setCell (p := ⟨w.heap.size + 2, 0, none⟩) (by first | exact Nat.le_refl _ | (simp; done) | (simp; omega) | omega) _).setCell (p := ⟨w.heap.size + 2, 1, none⟩) (by first | exact Nat.le_refl _ | (simp; done) | (simp; omega) | omega) _).setCell (p := ⟨w.heap.size + 2, 2, none⟩) (by first | exact Nat.le_refl _ | (simp; done) | (simp; omega) | omega) _⟩
  · have HLL := Lib.hid (HL rfl)
    clear HR HL
    go_wp2_with fail
    refine (HLL.out _).mono ?_
    rintro e w3 ⟨rfl, b3⟩
    clear x_g0 x_g1 x_g2 l_g x_h0 x_h1 x_h2 l_h x_r0 x_r1 x_r2 l_r
    have k_g := k_g.below b3 k_g.lt
    have k_h := k_h.below b3 k_h.lt
    have k_r := k_r.below b3 k_r.lt
    have bb := bb.trans (b3.mono bb.size)
    have x_g0 : w3.cell? ⟨g, 0, none⟩ = some (.int .u8 d) := by rw [k_g.cell]; rfl
    have x_g1 : w3.cell? ⟨g, 1, none⟩ = some (.bool m) := by rw [k_g.cell]; rfl
    have x_g2 : w3.cell? ⟨g, 2, none⟩ = some (.int .i64 z) := by rw [k_g.cell]; rfl
    have l_g := k_g.lt
    have x_h0 : w3.cell? ⟨h, 0, none⟩ = some (.int .u8 d') := by rw [k_h.cell]; rfl
    have x_h1 : w3.cell? ⟨h, 1, none⟩ = some (.bool m') := by rw [k_h.cell]; rfl
    have x_h2 : w3.cell? ⟨h, 2, none⟩ = some (.int .i64 z') := by rw [k_h.cell]; rfl
    have l_h := k_h.lt
    have x_r0 : w3.cell? ⟨w.heap.size + 2, 0, none⟩ = some (.int .i64 0) := by rw [k_r.cell]; rfl
    have x_r1 : w3.cell? ⟨w.heap.size + 2, 1, none⟩ = some (.int .i64 0) := by rw [k_r.cell]; rfl
    have x_r2 : w3.cell? ⟨w.heap.size + 2, 2, none⟩ = some (.string ⟨#[]⟩) := by rw [k_r.cell]; rfl
    have l_r := k_r.lt
    obtain ⟨B, rfl, rfl, rfl, rfl, hB⟩ := HB.out (by trivial)
    rcases hB with ⟨rfl, ⟨rfl, rfl⟩ | ⟨rfl, rfl⟩ | ⟨rfl, rfl⟩ | ⟨rfl, rfl⟩⟩ | ⟨rfl, ⟨rfl, rfl⟩ | ⟨rfl, rfl⟩ | ⟨rfl, rfl⟩ | ⟨rfl, rfl⟩⟩ | ⟨rfl, ⟨rfl, rfl⟩ | ⟨rfl, rfl⟩ | ⟨rfl, rfl⟩ | ⟨rfl, rfl⟩⟩ | ⟨rfl, ⟨rfl, rfl⟩ | ⟨rfl, rfl⟩ | ⟨rfl, rfl⟩ | ⟨rfl, rfl⟩⟩
    all_goals
      go_wp2_with fail
      refine (HT.out _ _).mono ?_
      rintro e w4 ⟨rfl, b4⟩
      clear x_g0 x_g1 x_g2 l_g x_h0 x_h1 x_h2 l_h x_r0 x_r1 x_r2 l_r
      have k_g := k_g.below b4 k_g.lt
      have k_h := k_h.below b4 k_h.lt
      have k_r := k_r.below b4 k_r.lt
      have bb := bb.trans (b4.mono bb.size)
      have x_g0 : w4.cell? ⟨g, 0, none⟩ = some (.int .u8 d) := by rw [k_g.cell]; rfl
      have x_g1 : w4.cell? ⟨g, 1, none⟩ = some (.bool m) := by rw [k_g.cell]; rfl
      have x_g2 : w4.cell? ⟨g, 2, none⟩ = some (.int .i64 z) := by rw [k_g.cell]; rfl
      have l_g := k_g.lt
      have x_h0 : w4.cell? ⟨h, 0, none⟩ = some (.int .u8 d') := by rw [k_h.cell]; rfl
      have x_h1 : w4.cell? ⟨h, 1, none⟩ = some (.bool m') := by rw [k_h.cell]; rfl
      have x_h2 : w4.cell? ⟨h, 2, none⟩ = some (.int .i64 z') := by rw [k_h.cell]; rfl
      have l_h := k_h.lt
      have x_r0 : w4.cell? ⟨w.heap.size + 2, 0, none⟩ = some (.int .i64 0) := by rw [k_r.cell]; rfl
      have x_r1 : w4.cell? ⟨w.heap.size + 2, 1, none⟩ = some (.int .i64 0) := by rw [k_r.cell]; rfl
      have x_r2 : w4.cell? ⟨w.heap.size + 2, 2, none⟩ = some (.string ⟨#[]⟩) := by rw [k_r.cell]; rfl
      have l_r := k_r.lt
      have z_r0 := k_r.frozen 0
      have z_r1 := k_r.frozen 1
      have z_r2 := k_r.frozen 2
      go_wp2
      first
        | exact bodyPost_ret (v := .tuple #[VS 2 (tN true) ⟨#[]⟩, .int .i64 0]) (by simp [results, Tryd.results28, go_sem, x_r0, x_r1, x_r2, l_r]) rfl ⟨rfl, (((bb).setCell (p := ⟨w.heap.size + 2, 0, none⟩) (by first | exact Nat.le_refl _ | (simp; done) | (simp; omega) | omega) _).setCell (p := ⟨w.heap.size + 2, 1, none⟩) (by first | exact Nat.le_refl _ | (simp; done) | (simp; omega) | omega) _).setCell (p := ⟨w.heap.size + 2, 2, none⟩) (by first | exact Nat.le_refl _ | (simp; done) | (simp; omega) | omega) _⟩
        | exact bodyPost_ret (v := .tuple #[VS 2 (tN false) ⟨#[]⟩, .int .i64 0]) (by simp [results, Tryd.results28, go_sem, x_r0, x_r1, x_r2, l_r]) rfl ⟨rfl, (((bb).setCell (p := ⟨w.heap.size + 2, 0, none⟩) (by first | exact Nat.le_refl _ | (simp; done) | (simp; omega) | omega) _).setCell (p := ⟨w.heap.size + 2, 1, none⟩) (by first | exact Nat.le_refl _ | (simp; done) | (simp; omega) | omega) _).setCell (p := ⟨w.heap.size + 2, 2, none⟩) (by first | exact Nat.le_refl _ | (simp; done) | (simp; omega) | omega) _⟩
end Go.Proofs.YtjkboelcpihphaaDoor
