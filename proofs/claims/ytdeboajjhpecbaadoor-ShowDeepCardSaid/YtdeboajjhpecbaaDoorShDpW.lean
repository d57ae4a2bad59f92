/- Show: the walk of ShowDeep. -/
import Derived.Test.YtdeboajjhpecbaaDoorShJ
set_option linter.unusedVariables false
set_option linter.unusedSimpArgs false
namespace Go.Proofs.YtdeboajjhpecbaaDoor.Hp
open Go.RowKit Go.Proofs.YtdeboajjhpecbaaDoor Go.Shelf
/-- An array within so many, the innermost holding 5, printed within d others. -/
def dp : Nat → Int → List UInt8
  | 0, _ => [53]
  | i + 1, d => if d > 2 then [91, 46, 46, 93] else 91 :: (jn [dp i (d + 1)] ++ [93])
theorem dp_len : ∀ (i : Nat) (d : Int), (dp i d).length ≤ 2 * i + 4
  | 0, d => by show 1 ≤ _; omega
  | i + 1, d => by
    unfold dp
    split
    · show 4 ≤ _; omega
    · have := dp_len i (d + 1)
      simp only [List.length_cons, List.length_append, jn, List.length_nil]; omega
def wt (n : Nat) : Nat → List UInt8
  | 0 => if n > 3 then [91, 46, 46, 93] else [53]
  | j + 1 => 91 :: (wt n j ++ [93])
theorem wt_dp (n : Nat) (h : n < 8) : wt n (min n 3) = dp n 0 := by
  match n, h with
  | 0, _ => rfl
  | 1, _ => rfl
  | 2, _ => rfl
  | 3, _ => rfl
  | 4, _ => rfl
  | 5, _ => rfl
  | 6, _ => rfl
  | 7, _ => rfl
theorem wt_len (n j : Nat) : (wt n j).length ≤ 2 * j + 4 := by
  induction j with
  | zero => unfold wt; split <;> simp
  | succ j ih => simp only [wt, List.length_cons, List.length_append, List.length_nil]; omega
/-- The state ahead of the store that closes the circle: v's box X, a's box Y, the array's block b. -/
structure DC (w0 wr : World) (N m H A B : Nat) (cv : Value) (cs : List Cell) (ps : List Int) (X Y b T : Nat) (rx sx r pr : Int) (W : World) : Prop where
  ms : Ms N W m H A B cv cs ps
  len : cs.length ≤ 40
  obj : objP cs r = .pointer (some ⟨b, 0, none⟩)
  ob : Blk W b 36 (objA 1 pr false T nilS nilP nilP nilS 0)
  xb : Blk W X 26 #[.int .i64 rx, .int .i64 sx, .string ⟨#[]⟩]
  yb : Blk W Y 26 #[.int .i64 9, .int .i64 r, .string ⟨#[]⟩]
  kp : Kp wr W
  bl : wr.heap.size ≤ b
  xl : X < b
  n0 : w0.heap.size ≤ b
  yl : b < Y
  lowg : Y < W.heap.size
  bel : Below w0.heap.size w0 W
theorem DC.below {w0 wr : World} {N m H A B : Nat} {cv : Value} {cs : List Cell} {ps : List Int} {X Y b T : Nat} {rx sx r pr : Int} {W W' : World} (h : DC w0 wr N m H A B cv cs ps X Y b T rx sx r pr W) (bb : Below W.heap.size W W') : DC w0 wr N m H A B cv cs ps X Y b T rx sx r pr W' :=
  ⟨h.ms.below bb, h.len, h.obj, h.ob.below bb h.ob.lt, h.xb.below bb h.xb.lt, h.yb.below bb h.yb.lt, h.kp.trans (Kp.of_below bb), h.bl, h.xl, h.n0, h.yl, Nat.lt_of_lt_of_le h.lowg bb.size, h.bel.trans (bb.mono h.bel.size)⟩
theorem DC.of {w0 wr : World} {N m H A B : Nat} {cv : Value} {cs : List Cell} {ps : List Int} {X Y b T : Nat} {rx sx r pr : Int} {W : World} (h : DC w0 wr N m H A B cv cs ps X Y b T rx sx r pr W) :
    Calls Tryd.prog 9 #[.pointer (some ⟨H, 0, none⟩), VS 9 r ⟨#[]⟩] W fun e W' => e = .returned (.pointer (some ⟨b, 0, none⟩)) ∧ Below W.heap.size W W' := by
  have := of_obj r ⟨#[]⟩ h.ms.hx (by have := h.len; omega) h.ms.hk
  rw [h.obj] at this
  exact this
abbrev rowD (r : Int) : Array Value := #[.int .i64 9, .int .i64 r, .string ⟨#[]⟩, .int .i64 10, .int .i64 0, .string ⟨#[]⟩, .int .i64 0, .int .i64 0, .string ⟨#[]⟩]
/-- And behind it. -/
structure DD (w0 wr : World) (N m H A B : Nat) (cv : Value) (cs : List Cell) (ps : List Int) (X Y b T g : Nat) (rx sx r pr : Int) (W : World) : Prop where
  ms : Ms N W m H A B cv cs ps
  len : cs.length ≤ 40
  obj : objP cs r = .pointer (some ⟨b, 0, none⟩)
  ob : Blk W b 36 (objA 1 pr false T (.slice (some ⟨g, 0, none⟩) 3 3) nilP nilP nilS 0)
  row : Blk W g 26 (rowD r)
  xb : Blk W X 26 #[.int .i64 rx, .int .i64 sx, .string ⟨#[]⟩]
  yb : Blk W Y 26 #[.int .i64 9, .int .i64 r, .string ⟨#[]⟩]
  kp : Kp wr W
  bel : Below w0.heap.size w0 W
theorem DD.below {w0 wr : World} {N m H A B : Nat} {cv : Value} {cs : List Cell} {ps : List Int} {X Y b T g : Nat} {rx sx r pr : Int} {W W' : World} (h : DD w0 wr N m H A B cv cs ps X Y b T g rx sx r pr W) (bb : Below W.heap.size W W') : DD w0 wr N m H A B cv cs ps X Y b T g rx sx r pr W' :=
  ⟨h.ms.below bb, h.len, h.obj, h.ob.below bb h.ob.lt, h.row.below bb h.row.lt, h.xb.below bb h.xb.lt, h.yb.below bb h.yb.lt, h.kp.trans (Kp.of_below bb), h.bel.trans (bb.mono h.bel.size)⟩
theorem DC.done {w0 wr : World} {N m H A B : Nat} {cv : Value} {cs : List Cell} {ps : List Int} {X Y b T g : Nat} {rx sx r pr : Int} {W : World} (h : DC w0 wr N m H A B cv cs ps X Y b T rx sx r pr W) (hg : Blk W g 26 (rowD r) ∧ Y < g) :
    DD w0 wr N m H A B cv cs ps X Y b T g rx sx r pr (W.setCell ⟨b, 4, none⟩ (.slice (some ⟨g, 0, none⟩) 3 3)) := by
  have u : Upd W (W.setCell ⟨b, 4, none⟩ (.slice (some ⟨g, 0, none⟩) 3 3)) (fun k => k = b) := (Upd.refl W _).set b 4 _ rfl
  refine ⟨h.ms.upd_val h.ob (Or.inl rfl) u, h.len, h.obj, h.ob.set_ 4 _, u.blk hg.1 (by have := h.yl; omega), u.blk h.xb (by have := h.xl; omega), u.blk h.yb (by have := h.yl; omega), ?_, h.bel.trans (u.below h.bel.size (fun k e => e ▸ h.n0))⟩
  exact fun q t c hq ht => u.blk (h.kp q t c hq ht) (by have := hq.lt; have := h.bl; omega)
/-- What the circle is printed as. -/
def circ : List UInt8 := [91, 91, 91, 91, 46, 46, 93, 44, 32, 44, 32, 117, 110, 100, 101, 102, 105, 110, 101, 100, 93, 44, 32, 44, 32, 117, 110, 100, 101, 102, 105, 110, 101, 100, 93, 44, 32, 44, 32, 117, 110, 100, 101, 102, 105, 110, 101, 100, 93]
def undB : List UInt8 := [117, 110, 100, 101, 102, 105, 110, 101, 100]
theorem DD.ring {w0 wr : World} {N m H A B : Nat} {cv : Value} {cs : List Cell} {ps : List Int} {X Y b T g : Nat} {rx sx r pr : Int} {W : World} (h : DD w0 wr N m H A B cv cs ps X Y b T g rx sx r pr W) (d : Int) (hd0 : 0 ≤ d) (hd : decide (d > 2) = false) (x : List UInt8) (hx : x.length ≤ 100)
    (hS : Shs False (fun _ => False) m W cs (d + 1) (9, r, ⟨#[]⟩) x) : Shs False (fun _ => False) m W cs d (9, r, ⟨#[]⟩) (91 :: (jn [x, [], undB] ++ [93])) := by
  refine .array d r ⟨#[]⟩ b T g 3 pr 0 false nilP nilP nilS [(9, r, ⟨#[]⟩), (10, 0, ⟨#[]⟩), (0, 0, ⟨#[]⟩)] [x, [], undB] hd0 hd h.obj h.ob _ h.row (fun i hi => ?_) rfl (by simp) ?_ id id (fun i k hk => ?_)
  · match i, hi with | 0, _ => rfl | 1, _ => rfl | 2, _ => rfl | 3, _ => rfl | 4, _ => rfl | 5, _ => rfl | 6, _ => rfl | 7, _ => rfl | 8, _ => rfl
  · show (x ++ [44, 32] ++ ([] ++ [44, 32] ++ undB)).length ≤ 16000
    simp [undB]; omega
  · match i, hk with
    | 0, hk =>
      simp at hk; subst hk
      exact hS
    | 1, hk =>
      simp at hk; subst hk
      exact .empty _ _ _
    | 2, hk =>
      simp at hk; subst hk
      exact Shs.undef _
theorem DD.circle {w0 wr : World} {N m H A B : Nat} {cv : Value} {cs : List Cell} {ps : List Int} {X Y b T g : Nat} {rx sx r pr : Int} {W : World} (h : DD w0 wr N m H A B cv cs ps X Y b T g rx sx r pr W) : Shs False (fun _ => False) m W cs 0 (9, r, ⟨#[]⟩) circ :=
  h.ring 0 (by decide) (by decide) _ (by decide) (h.ring 1 (by decide) (by decide) _ (by decide) (h.ring 2 (by decide) (by decide) _ (by decide) (.deep 3 r ⟨#[]⟩ b T pr 0 false _ _ _ _ (by decide) h.obj h.ob id)))
theorem Shs.unbox {m : Nat} {E : Nat → Prop} {w : World} {cs : List Cell} {d : Int} {k : K3} {bs : List UInt8} (h : Shs False E m w cs d k bs) : Shs False (fun _ => False) m w cs d k bs := by
  induction h with
  | plain d k n s l h8 h9 h10 hv ht hf hl => exact .plain d k n s l h8 h9 h10 hv ht hf hl
  | empty d n s => exact .empty d n s
  | deep d r s b T pr at_ clo ev tb wk fa hd hp hB hbE => exact .deep d r s b T pr at_ clo ev tb wk fa hd hp hB id
  | array d r s b T g cap pr at_ clo tb wk fa L ss hd0 hd hp hB V hV hVL hl hn hsz hbE hgE hS ih => exact .array d r s b T g cap pr at_ clo tb wk fa L ss hd0 hd hp hB V hV hVL hl hn hsz id id ih
  | raw hF => exact hF.elim
set_option maxRecDepth 100000 in
set_option maxHeartbeats 8000000 in
theorem deep_walk (n : Int) (w : World) (hT : Vx.Tb w) : Calls Tryd.prog 3 #[.int .i64 n] w (Ret (.bool true) w) := by
  obtain ⟨N, hN, hN8⟩ := norm_mod n 8 (by omega) (by omega)
  have HN := Lib.hid hN
  have HT := Lib.hid hT
  clear hT hN
  go_enter Tryd.func3, Tryd.ntmps3
  go_wp2_with (fail)
  refine (fit_any _ HT.out).mono ?_
  rintro e w0 ⟨rfl, b0⟩
  go_upto_region 4 with fail
  rw [HN.out]
  go_wp2_with (fail)
  refine (machine_any _).mono ?_
  rintro e w1 ⟨m, H, A, B, cv, cs, ps, rfl, hM, hc, b1⟩
  have HM := Lib.hid (And.intro hM (And.intro hc (b0.trans (b1.mono b0.size))))
  have h01 : w.heap.size ≤ w0.heap.size := b0.size
  clear hM hc b1 b0
  go_upto_region 6 with fail
  have bn := (Below.refl w1.heap.size w1).alloc (Nat.le_refl _) (.cells #[.int .i64 3, .int .i64 5, .string ⟨#[]⟩] 26)
  have HI0 : Hid (∃ cv cs r s, Blk (w1.alloc (.cells #[.int .i64 3, .int .i64 5, .string ⟨#[]⟩] 26)) w1.heap.size 26 #[.int .i64 r, .int .i64 s, .string ⟨#[]⟩] ∧ Ms w0.heap.size (w1.alloc (.cells #[.int .i64 3, .int .i64 5, .string ⟨#[]⟩] 26)) m H A B cv cs ps ∧ cs.length = 21 + 0 ∧
      (∀ d, 0 ≤ d → Shs False (fun k => k = w1.heap.size) m (w1.alloc (.cells #[.int .i64 3, .int .i64 5, .string ⟨#[]⟩] 26)) cs d (r, s, ⟨#[]⟩) (dp 0 d)) ∧ Below w.heap.size w (w1.alloc (.cells #[.int .i64 3, .int .i64 5, .string ⟨#[]⟩] 26))) :=
    Lib.hid ⟨cv, cs, 3, 5, Blk.new _ _ _, HM.out.1.below bn, HM.out.2.1, fun d hd => Shs.digit d 5 (by decide), HM.out.2.2.trans (bn.mono HM.out.2.2.size)⟩
  have h1X := HM.out.2.2.size
  have hXl : w1.heap.size < (w1.alloc (.cells #[.int .i64 3, .int .i64 5, .string ⟨#[]⟩] 26)).heap.size := by simp
  have HXX := Lib.hid (And.intro h1X hXl)
  clear bn h1X hXl HM
  generalize w1.alloc (.cells #[.int .i64 3, .int .i64 5, .string ⟨#[]⟩] 26) = W1 at *
  generalize w1.heap.size = X at *
  go_wp2_with (fail)
  go_loopw [16] (fun u wr => ∃ i : Nat, u = .int .i64 (i : Int) ∧ i ≤ N ∧ X < wr.heap.size ∧ Hid (∃ cv cs r s, Blk wr X 26 #[.int .i64 r, .int .i64 s, .string ⟨#[]⟩] ∧ Ms w0.heap.size wr m H A B cv cs ps ∧ cs.length = 21 + i ∧
      (∀ d, 0 ≤ d → Shs False (fun k => k = X) m wr cs d (r, s, ⟨#[]⟩) (dp i d)) ∧ Below w.heap.size w wr)) (fun u _ => N - (intOf u).toNat)
  case atStart => exact ⟨0, rfl, Nat.zero_le _, HXX.out.2, HI0⟩
  case round =>
    obtain ⟨i, rfl, hi0, hXw, HI⟩ := hrel
    by_cases hi : i < N
    · have t3 : decide ((i : Int) < (N : Int)) = true := by simp; omega
      have ac : IntKind.i64.wrap ((i : Int) + 1) = (i : Int) + 1 := IntWalk.i64_in _ (by omega)
      obtain ⟨cv, cs, r, s, hX, hM, hl, hS, hb⟩ := HI.out
      have x0 : wr.cell? ⟨X, 0, none⟩ = some (.int .i64 r) := by rw [hX.cell]; rfl
      have x1 : wr.cell? ⟨X, 1, none⟩ = some (.int .i64 s) := by rw [hX.cell]; rfl
      have x2 : wr.cell? ⟨X, 2, none⟩ = some (.string ⟨#[]⟩) := by rw [hX.cell]; rfl
      have HJ := Lib.hid (And.intro hX (And.intro hM (And.intro hl (And.intro hS hb))))
      clear hX hM hl hS hb HI HI0
      go_wp2_with (fail)
      have ha1 : Below wr.heap.size wr (wr.alloc (.cells #[.int .i64 r, .int .i64 s, .string ⟨#[]⟩] 26)) := (Below.refl _ _).alloc (Nat.le_refl _) _
      have hV1 := Blk.new wr 26 #[.int .i64 r, .int .i64 s, .string ⟨#[]⟩]
      refine ((HJ.out.2.1.below ha1).array _ 1 1 (by have := HJ.out.2.2.1; omega) (Nat.le_trans (Nat.le_trans HJ.out.2.1.low.2.2.1 HJ.out.2.1.low.2.2.2) ha1.size)).mono ?_
      rintro e w2 ⟨b, T, cv2, rfl, hM2, hB, hTb, h3, hK, b6⟩
      have hX2 := hK _ _ _ (HJ.out.1.below ha1 hXw) (by simp)
      have hbX : ¬ b = X := by have := ha1.size; omega
      have hgX : ¬ wr.heap.size = X := by omega
      have hl2 : (cs ++ [(some (tObj, b), false)]).length = 21 + (i + 1) := by have := HJ.out.2.2.1; simp; omega
      have hS2 : ∀ d, 0 ≤ d → Shs False (fun k => k = X) m w2 (cs ++ [(some (tObj, b), false)]) d (9, ((cs.length + 1 : Nat) : Int), ⟨#[]⟩) (dp (i + 1) d) := fun d hd => by
        by_cases h2 : d > 2
        · rw [dp, if_pos h2]
          exact .deep d _ _ b T _ _ _ _ _ _ _ (by simpa using h2) (objP_last cs b) hB hbX
        · rw [dp, if_neg h2]
          refine Shs.mk (L := [(r, s, ⟨#[]⟩)]) (ss := [dp i (d + 1)]) hK hB _ hV1 (fun i hi => by match i, hi with | 0, _ => rfl | 1, _ => rfl | 2, _ => rfl) hd (by simpa using h2) rfl (by simp) ?_ hbX hgX (fun i k hk => ?_)
          · have := dp_len i (d + 1)
            show (dp i (d + 1)).length ≤ _; omega
          · match i, hk with
            | 0, hk =>
              simp at hk; subst hk
              exact (HJ.out.2.2.2.1 (d + 1) (by omega)).keep ((Kp.of_below ha1).e _)
      have hb2 := (HJ.out.2.2.2.2.trans (ha1.mono (by have := HJ.out.2.2.2.2.size; omega))).trans (b6.mono h01)
      obtain ⟨r', hr'⟩ : ∃ r : Int, ((cs.length + 1 : Nat) : Int) = r := ⟨_, rfl⟩
      rw [hr'] at hS2 ⊢
      obtain ⟨cs2, hcs2⟩ : ∃ c, c = cs ++ [(some (tObj, b), false)] := ⟨_, rfl⟩
      rw [← hcs2] at hS2 hl2 hM2
      have z0 : w2.frozen? ⟨X, 0, none⟩ = false := hX2.frozen 0
      have z1 : w2.frozen? ⟨X, 1, none⟩ = false := hX2.frozen 1
      have z2 : w2.frozen? ⟨X, 2, none⟩ = false := hX2.frozen 2
      have y0 : w2.cell? ⟨X, 0, none⟩ = some (.int .i64 r) := by rw [hX2.cell]; rfl
      have y1 : w2.cell? ⟨X, 1, none⟩ = some (.int .i64 s) := by rw [hX2.cell]; rfl
      have y2 : w2.cell? ⟨X, 2, none⟩ = some (.string ⟨#[]⟩) := by rw [hX2.cell]; rfl
      have u : Upd w2 (((w2.setCell ⟨X, 0, none⟩ (.int .i64 9)).setCell ⟨X, 1, none⟩ (.int .i64 r')).setCell ⟨X, 2, none⟩ (.string ⟨#[]⟩)) (fun k => k = X) := (((Upd.refl w2 (fun k => k = X)).set _ 0 _ rfl).set _ 1 _ rfl).set _ 2 _ rfl
      have hX3 := ((hX2.set_ 0 (.int .i64 9)).set_ 1 (.int .i64 r')).set_ 2 (.string ⟨#[]⟩)
      have HJ2 : Hid (∃ cv cs r s, Blk (((w2.setCell ⟨X, 0, none⟩ (.int .i64 9)).setCell ⟨X, 1, none⟩ (.int .i64 r')).setCell ⟨X, 2, none⟩ (.string ⟨#[]⟩)) X 26 #[.int .i64 r, .int .i64 s, .string ⟨#[]⟩] ∧ Ms w0.heap.size (((w2.setCell ⟨X, 0, none⟩ (.int .i64 9)).setCell ⟨X, 1, none⟩ (.int .i64 r')).setCell ⟨X, 2, none⟩ (.string ⟨#[]⟩)) m H A B cv cs ps ∧ cs.length = 21 + (i + 1) ∧
          (∀ d, 0 ≤ d → Shs False (fun k => k = X) m (((w2.setCell ⟨X, 0, none⟩ (.int .i64 9)).setCell ⟨X, 1, none⟩ (.int .i64 r')).setCell ⟨X, 2, none⟩ (.string ⟨#[]⟩)) cs d (r, s, ⟨#[]⟩) (dp (i + 1) d)) ∧ Below w.heap.size w (((w2.setCell ⟨X, 0, none⟩ (.int .i64 9)).setCell ⟨X, 1, none⟩ (.int .i64 r')).setCell ⟨X, 2, none⟩ (.string ⟨#[]⟩))) :=
        Lib.hid ⟨cv2, cs2, 9, r', hX3, hM2.upd_val hX2 (Or.inr rfl) u, hl2, fun d hd => (hS2 d hd).keep (KpE.of_upd u), hb2.trans (u.below hb2.size (fun k e => e ▸ HXX.out.1))⟩
      have hXw3 : X < (((w2.setCell ⟨X, 0, none⟩ (.int .i64 9)).setCell ⟨X, 1, none⟩ (.int .i64 r')).setCell ⟨X, 2, none⟩ (.string ⟨#[]⟩)).heap.size := by simp; exact hX2.lt
      clear hbX hgX HJ ha1 hV1 hM2 hB hTb h3 hK b6 hX2 hl2 hS2 hb2 hr' hcs2 u hX3 x0 x1 x2
      go_wp2_with (fail)
      clear z0 z1 z2 y0 y1 y2
      generalize ((w2.setCell ⟨X, 0, none⟩ (.int .i64 9)).setCell ⟨X, 1, none⟩ (.int .i64 r')).setCell ⟨X, 2, none⟩ (.string ⟨#[]⟩) = w3 at *
      go_roundw
      case rel => exact ⟨i + 1, rfl, by omega, hXw3, HJ2⟩
      case measure => simp [intOf]; omega
    · have hin : i = N := by omega
      have t3 : decide ((i : Int) < (N : Int)) = false := by simp; omega
      subst hin
      go_upto_if 24 with fail
      go_cut [5] (fun s5 wx => s5 = .string ⟨(wt i 0).toArray⟩ ∧ wr = wx)
      case first =>
        by_cases h3 : i > 3
        · have t4 : decide ((i : Int) > 3) = true := by simp; omega
          have hw0 : wt i 0 = [91, 46, 46, 93] := by unfold wt; rw [if_pos h3]
          go_wp2_with (fail)
          go_meet
          exact ⟨by rw [hw0], rfl⟩
        · have t4 : decide ((i : Int) > 3) = false := by simp; omega
          have hw0 : wt i 0 = [53] := by unfold wt; rw [if_neg h3]
          go_wp2_with (fail)
          go_meet
          exact ⟨by rw [hw0], rfl⟩
      case rest =>
      obtain ⟨rfl, rfl⟩ := hcut
      go_wp2_with (fail)
      obtain ⟨M, hM⟩ : ∃ M : Nat, min i 3 = M := ⟨_, rfl⟩
      have hmin : min (i : Int) 3 = (M : Int) := by omega
      have hM3 : M ≤ 3 := by omega
      have HWT := Lib.hid (show wt i M = dp i 0 by rw [← hM]; exact wt_dp i (by omega))
      clear hM
      try rw [hmin]
      obtain ⟨WA, hWA⟩ : ∃ x, x = wr := ⟨_, rfl⟩
      subst hWA
      go_loopw [5, 27] (fun s5 u wx => ∃ j : Nat, u = .int .i64 (j : Int) ∧ j ≤ M ∧ s5 = .string ⟨(wt i j).toArray⟩ ∧ WA = wx) (fun _ u _ => M - (intOf u).toNat)
      case atStart => exact ⟨0, rfl, Nat.zero_le _, rfl, rfl⟩
      case round =>
        obtain ⟨j, rfl, hj0, rfl, rfl⟩ := hrel
        by_cases hj : j < M
        · have t5 : decide ((j : Int) < (M : Int)) = true := by simp; omega
          have ac : IntKind.i64.wrap ((j : Int) + 1) = (j : Int) + 1 := IntWalk.i64_in _ (by omega)
          have hwl := wt_len i j
          obtain ⟨ws, hws⟩ : ∃ ws, wt i j = ws := ⟨_, rfl⟩
          have HWS := Lib.hid hws
          rw [hws] at hwl ⊢
          clear hws
          have a1 : ¬ 9223372036854775807 < ws.length + 1 := by omega
          have a2 : ¬ 9223372036854775807 < ws.length + 1 + 1 := by omega
          go_wp2_with (fail)
          go_roundw
          case rel => exact ⟨j + 1, rfl, by omega, (by show Value.string _ = Value.string ⟨(91 :: (wt i j ++ [93])).toArray⟩; rw [HWS.out]; exact congrArg Value.string (ByteArray.ext (by first | rfl | (apply Array.ext'; simp [ByteArray.data_append])))), trivial⟩
          case measure => simp [intOf]; omega
        · have hjn : j = M := by omega
          have t5 : decide ((j : Int) < (M : Int)) = false := by simp; omega
          subst hjn
          rw [HWT.out]
          have hdl := dp_len i 0
          obtain ⟨ws, hws⟩ : ∃ ws, dp i 0 = ws := ⟨_, rfl⟩
          rw [hws] at hdl ⊢
          have HDL := Lib.hid (And.intro hws hdl)
          clear hws hdl HWT hmin hM3 HN HI0
          obtain ⟨cv, cs, rx, sx, hX, hM, hl, hS, hb⟩ := HI.out
          have HJ := Lib.hid (And.intro hX (And.intro hM (And.intro hl (And.intro hS hb))))
          clear hX hM hl hS hb HI
          go_wp2_with (fail)
          refine (HJ.out.2.1.array none 0 0 (by have := HJ.out.2.2.1; omega) (Nat.le_trans HJ.out.2.1.low.2.2.1 HJ.out.2.1.low.2.2.2)).mono ?_
          rintro e w2 ⟨b, T, cv2, rfl, hM2, hB, hTb, h3, hK, b6⟩
          have hob := objP_last cs b
          obtain ⟨r, hr⟩ : ∃ r : Int, ((cs.length + 1 : Nat) : Int) = r := ⟨_, rfl⟩
          rw [hr] at hob ⊢
          have ba := (Below.refl w2.heap.size w2).alloc (Nat.le_refl _) (.cells #[.int .i64 9, .int .i64 r, .string ⟨#[]⟩] 26)
          have hX2 := hK _ _ _ HJ.out.1 (by simp)
          have hC : DC w WA w0.heap.size m H A B cv2 (cs ++ [(some (tObj, b), false)]) ps X w2.heap.size b T rx sx r (ps.getD 2 0) (w2.alloc (.cells #[.int .i64 9, .int .i64 r, .string ⟨#[]⟩] 26)) :=
            ⟨hM2.below ba, by have := HJ.out.2.2.1; simp; omega, hob, hB.below ba hB.lt, hX2.below ba hX2.lt, Blk.new _ _ _, hK.trans (Kp.of_below ba), by omega, by omega, by have := HJ.out.2.2.2.2.size; omega, hB.lt, by simp, (HJ.out.2.2.2.2.trans (b6.mono h01)).trans (ba.mono (Nat.le_trans HJ.out.2.2.2.2.size (by have := hB.lt; omega)))⟩
          have HC := Lib.hid hC
          have HS : Hid ((w2.alloc (.cells #[.int .i64 9, .int .i64 r, .string ⟨#[]⟩] 26)).cell? ⟨m, 0, none⟩ = some (.pointer (some ⟨H, 0, none⟩)) ∧ (w2.alloc (.cells #[.int .i64 9, .int .i64 r, .string ⟨#[]⟩] 26)).cell? ⟨w2.heap.size, 0, none⟩ = some (.int .i64 9) ∧ (w2.alloc (.cells #[.int .i64 9, .int .i64 r, .string ⟨#[]⟩] 26)).cell? ⟨w2.heap.size, 1, none⟩ = some (.int .i64 r) ∧ (w2.alloc (.cells #[.int .i64 9, .int .i64 r, .string ⟨#[]⟩] 26)).cell? ⟨w2.heap.size, 2, none⟩ = some (.string ⟨#[]⟩)) :=
            Lib.hid ⟨by rw [hC.ms.mb.cell]; rfl, by rw [hC.yb.cell]; rfl, by rw [hC.yb.cell]; rfl, by rw [hC.yb.cell]; rfl⟩
          clear hM2 hB hTb h3 hK b6 hob hr ba hX2 hC
          go_upto_region 18 with fail
          generalize w2.alloc (.cells #[.int .i64 9, .int .i64 r, .string ⟨#[]⟩] 26) = W3 at *
          generalize w2.heap.size = Y at *
          obtain ⟨cs2, hcs2⟩ : ∃ c, c = cs ++ [(some (tObj, b), false)] := ⟨_, rfl⟩
          rw [← hcs2] at HC
          have HCS := Lib.hid hcs2
          clear hcs2
          go_cut [46] from 35 to 46 (fun s46 wx => ∃ g : Nat, Hid (DD w WA w0.heap.size m H A B cv2 cs2 ps X Y b T g rx sx r (ps.getD 2 0) wx))
          case first =>
            -- REGION 18
            refine wp_var0 (fun KV HKV => ?_)
            refine wp_region_till (m := 12) (S := (fun W => W.cell? ⟨m, 0, none⟩ = some (.pointer (some ⟨H, 0, none⟩)) ∧ W.cell? ⟨Y, 0, none⟩ = some (.int .i64 9) ∧ W.cell? ⟨Y, 1, none⟩ = some (.int .i64 r) ∧ W.cell? ⟨Y, 2, none⟩ = some (.string ⟨#[]⟩))) (by kernel_rfl) ?_
            have e4 : W3.drew = W3.drewN 1 := rfl
            rw [e4]
            have S0 : (W3.drewN 1).cell? ⟨m, 0, none⟩ = some (.pointer (some ⟨H, 0, none⟩)) ∧ (W3.drewN 1).cell? ⟨Y, 0, none⟩ = some (.int .i64 9) ∧ (W3.drewN 1).cell? ⟨Y, 1, none⟩ = some (.int .i64 r) ∧ (W3.drewN 1).cell? ⟨Y, 2, none⟩ = some (.string ⟨#[]⟩) := HS.out
            have HD := Lib.hid (HC.out.below (below_drw (Below.refl W3.heap.size W3) 1))
            clear e4 HS HC
            generalize W3.drewN 1 = E1 at *
            change tillH _ _ _ _ _ _ 13 #[false, false, false, false, false, false, false, false, false, false, false, false, false] _ _
            refine tillH_takeAny (i := 0) (oi := ?oo1) (v := ?vv1) ?hi1 (by kernel_rfl) (by kernel_rfl) (by kernel_rfl) ?hq1 (by kernel_rfl) ?hy1 (fun _ => S0) ?hh1
            case hi1 => (simp only [List.getElem?_toArray, List.getElem?_cons_succ, List.getElem?_cons_zero]; rfl)
            case hq1 => exact fun _ _ _ h => h
            case hy1 => exact Or.inl ⟨by rfl, by (intro W; go_simp; (try with_reducible rfl))⟩
            (try simp only [Act.put, List.setIfInBounds_toArray, List.set_cons_zero, List.set_cons_succ])
            refine tillH_takeAny (i := 1) (oi := ?oo2) (v := ?vv2) ?hi2 (by kernel_rfl) (by kernel_rfl) (by kernel_rfl) ?hq2 (by kernel_rfl) ?hy2 (fun _ => S0) ?hh2
            case hi2 => (simp only [List.getElem?_toArray, List.getElem?_cons_succ, List.getElem?_cons_zero]; rfl)
            case hq2 => exact fun _ _ _ h => h
            case hy2 => exact Or.inl ⟨by rfl, by (intro W; go_simp; (try with_reducible rfl))⟩
            (try simp only [Act.put, List.setIfInBounds_toArray, List.set_cons_zero, List.set_cons_succ])
            refine tillH_takeAny (i := 2) (oi := ?oo3) (v := ?vv3) ?hi3 (by kernel_rfl) (by kernel_rfl) (by kernel_rfl) ?hq3 (by kernel_rfl) ?hy3 (fun _ => S0) ?hh3
            case hi3 => (simp only [List.getElem?_toArray, List.getElem?_cons_succ, List.getElem?_cons_zero]; rfl)
            case hq3 => exact fun _ _ _ h => h
            case hy3 => exact Or.inl ⟨by rfl, by (intro W; go_simp; (try with_reducible rfl))⟩
            (try simp only [Act.put, List.setIfInBounds_toArray, List.set_cons_zero, List.set_cons_succ])
            refine tillH_takeC [11, 10, 5] (i := 3) (oi := ?oo4) (v := ?vv4) ?hi4 (by kernel_rfl) (by kernel_rfl) (by kernel_rfl) ?hq4 (by kernel_rfl) (by kernel_rfl) (by kernel_rfl) ?hy4 S0 ?hh4
            case hi4 => (simp only [List.getElem?_toArray, List.getElem?_cons_succ, List.getElem?_cons_zero]; rfl)
            case hq4 => exact fun _ _ _ h => h
            case hy4 => exact Or.inl ⟨by rfl, by (intro W hSw; (try obtain ⟨s0, s1, s2, s3⟩ := hSw); go_simp; (try with_reducible rfl))⟩
            (try simp only [Act.put, List.setIfInBounds_toArray, List.set_cons_zero, List.set_cons_succ])
            refine tillH_takeC [11, 10, 5] (i := 4) (oi := ?oo5) (v := ?vv5) ?hi5 (by kernel_rfl) (by kernel_rfl) (by kernel_rfl) ?hq5 (by kernel_rfl) (by kernel_rfl) (by kernel_rfl) ?hy5 S0 ?hh5
            case hi5 => (simp only [List.getElem?_toArray, List.getElem?_cons_succ, List.getElem?_cons_zero]; rfl)
            case hq5 => exact fun _ _ _ h => h
            case hy5 => exact Or.inl ⟨by rfl, by (intro W hSw; (try obtain ⟨s0, s1, s2, s3⟩ := hSw); go_simp; (try with_reducible rfl))⟩
            (try simp only [Act.put, List.setIfInBounds_toArray, List.set_cons_zero, List.set_cons_succ])
            refine tillH_takeC [9] (i := 6) (oi := ?oo6) (v := ?vv6) ?hi6 (by kernel_rfl) (by kernel_rfl) (by kernel_rfl) ?hq6 (by kernel_rfl) (by kernel_rfl) (by kernel_rfl) ?hy6 S0 ?hh6
            case hi6 => (simp only [List.getElem?_toArray, List.getElem?_cons_succ, List.getElem?_cons_zero]; rfl)
            case hq6 => exact fun _ _ _ h => h
            case hy6 => exact Or.inl ⟨by rfl, by (intro W hSw; (try obtain ⟨s0, s1, s2, s3⟩ := hSw); go_simp; (try with_reducible rfl))⟩
            (try simp only [Act.put, List.setIfInBounds_toArray, List.set_cons_zero, List.set_cons_succ])
            refine tillH_takeAny (i := 7) (oi := ?oo7) (v := ?vv7) ?hi7 (by kernel_rfl) (by kernel_rfl) (by kernel_rfl) ?hq7 (by kernel_rfl) ?hy7 (fun _ => S0) ?hh7
            case hi7 => (simp only [List.getElem?_toArray, List.getElem?_cons_succ, List.getElem?_cons_zero]; rfl)
            case hq7 => exact fun _ _ _ h => h
            case hy7 => exact Or.inl ⟨by rfl, by (intro W; go_simp; (try with_reducible rfl))⟩
            (try simp only [Act.put, List.setIfInBounds_toArray, List.set_cons_zero, List.set_cons_succ])
            refine tillH_takeAny (i := 8) (oi := ?oo8) (v := ?vv8) ?hi8 (by kernel_rfl) (by kernel_rfl) (by kernel_rfl) ?hq8 (by kernel_rfl) ?hy8 (fun _ => S0) ?hh8
            case hi8 => (simp only [List.getElem?_toArray, List.getElem?_cons_succ, List.getElem?_cons_zero]; rfl)
            case hq8 => exact fun _ _ _ h => h
            case hy8 => exact Or.inl ⟨by rfl, by (intro W; go_simp; (try with_reducible rfl))⟩
            (try simp only [Act.put, List.setIfInBounds_toArray, List.set_cons_zero, List.set_cons_succ])
            refine tillH_next (rs := [5, 9]) (by kernel_rfl) (by simp) ?_
            refine NextH.cons rfl (fun K hK => ?_) (NextH.cons rfl (fun K hK => ?_) NextH.nil)
            · go_simp
              refine HD.out.of.mono ?_
              rintro e E2 ⟨rfl, bf⟩
              have S1 : (E2).cell? ⟨m, 0, none⟩ = some (.pointer (some ⟨H, 0, none⟩)) ∧ (E2).cell? ⟨Y, 0, none⟩ = some (.int .i64 9) ∧ (E2).cell? ⟨Y, 1, none⟩ = some (.int .i64 r) ∧ (E2).cell? ⟨Y, 2, none⟩ = some (.string ⟨#[]⟩) := ⟨((bf).cell (World.block_lt_of_cell? _ _ S0.1)).trans S0.1, ((bf).cell (World.block_lt_of_cell? _ _ S0.2.1)).trans S0.2.1, ((bf).cell (World.block_lt_of_cell? _ _ S0.2.2.1)).trans S0.2.2.1, ((bf).cell (World.block_lt_of_cell? _ _ S0.2.2.2)).trans S0.2.2.2⟩
              have HD := Lib.hid (HD.out.below bf)
              clear bf
              refine hK.out _ _ (fun _ => S1) ?_
              clear hK K
              (try simp only [Act.put, List.setIfInBounds_toArray, List.set_cons_zero, List.set_cons_succ])
              refine tillH_next (rs := [9]) (by kernel_rfl) (by simp) ?_
              refine NextH.cons rfl (fun K hK => ?_) NextH.nil
              go_simp
              have ba : Below E2.heap.size E2 (E2.alloc (.cells #[.int .i64 9, .int .i64 r, .string ⟨#[]⟩, .int .i64 10, .int .i64 0, .string ⟨#[]⟩, .int .i64 0, .int .i64 0, .string ⟨#[]⟩] 26)) := (Below.refl _ _).alloc (Nat.le_refl _) _
              have S2 : (E2.alloc (.cells #[.int .i64 9, .int .i64 r, .string ⟨#[]⟩, .int .i64 10, .int .i64 0, .string ⟨#[]⟩, .int .i64 0, .int .i64 0, .string ⟨#[]⟩] 26)).cell? ⟨m, 0, none⟩ = some (.pointer (some ⟨H, 0, none⟩)) ∧ (E2.alloc (.cells #[.int .i64 9, .int .i64 r, .string ⟨#[]⟩, .int .i64 10, .int .i64 0, .string ⟨#[]⟩, .int .i64 0, .int .i64 0, .string ⟨#[]⟩] 26)).cell? ⟨Y, 0, none⟩ = some (.int .i64 9) ∧ (E2.alloc (.cells #[.int .i64 9, .int .i64 r, .string ⟨#[]⟩, .int .i64 10, .int .i64 0, .string ⟨#[]⟩, .int .i64 0, .int .i64 0, .string ⟨#[]⟩] 26)).cell? ⟨Y, 1, none⟩ = some (.int .i64 r) ∧ (E2.alloc (.cells #[.int .i64 9, .int .i64 r, .string ⟨#[]⟩, .int .i64 10, .int .i64 0, .string ⟨#[]⟩, .int .i64 0, .int .i64 0, .string ⟨#[]⟩] 26)).cell? ⟨Y, 2, none⟩ = some (.string ⟨#[]⟩) := ⟨((ba).cell (World.block_lt_of_cell? _ _ S1.1)).trans S1.1, ((ba).cell (World.block_lt_of_cell? _ _ S1.2.1)).trans S1.2.1, ((ba).cell (World.block_lt_of_cell? _ _ S1.2.2.1)).trans S1.2.2.1, ((ba).cell (World.block_lt_of_cell? _ _ S1.2.2.2)).trans S1.2.2.2⟩
              have HV := Lib.hid (And.intro (Blk.new E2 26 #[.int .i64 9, .int .i64 r, .string ⟨#[]⟩, .int .i64 10, .int .i64 0, .string ⟨#[]⟩, .int .i64 0, .int .i64 0, .string ⟨#[]⟩]) HD.out.lowg)
              have HD := Lib.hid (HD.out.below ba)
              clear ba
              refine hK.out _ _ (fun _ => S2) ?_
              clear hK K
              (try simp only [Act.put, List.setIfInBounds_toArray, List.set_cons_zero, List.set_cons_succ])
              generalize E2.alloc (.cells #[.int .i64 9, .int .i64 r, .string ⟨#[]⟩, .int .i64 10, .int .i64 0, .string ⟨#[]⟩, .int .i64 0, .int .i64 0, .string ⟨#[]⟩] 26) = E3 at *
              generalize E2.heap.size = g at *
              refine tillH_takeAny (i := 10) (oi := ?oo9) (v := ?vv9) ?hi9 (by kernel_rfl) (by kernel_rfl) (by kernel_rfl) ?hq9 (by kernel_rfl) ?hy9 (fun _ => S2) ?hh9
              case hi9 => (simp only [List.getElem?_toArray, List.getElem?_cons_succ, List.getElem?_cons_zero]; rfl)
              case hq9 => exact fun _ _ _ h => h
              case hy9 => exact Or.inl ⟨by rfl, by (intro W; go_simp; (try with_reducible rfl))⟩
              (try simp only [Act.put, List.setIfInBounds_toArray, List.set_cons_zero, List.set_cons_succ])
              refine tillH_takeAny (i := 11) (oi := ?oo10) (v := ?vv10) ?hi10 (by kernel_rfl) (by kernel_rfl) (by kernel_rfl) ?hq10 (by kernel_rfl) ?hy10 (fun _ => S2) ?hh10
              case hi10 => (simp only [List.getElem?_toArray, List.getElem?_cons_succ, List.getElem?_cons_zero]; rfl)
              case hq10 => exact fun _ _ _ h => h
              case hy10 => exact Or.inl ⟨by rfl, by (intro W; go_simp; (try with_reducible rfl))⟩
              (try simp only [Act.put, List.setIfInBounds_toArray, List.set_cons_zero, List.set_cons_succ])
              have y4 : E3.frozen? ⟨b, 4, none⟩ = false := HD.out.ob.frozen 4
              have y5 : E3.cell? ⟨b, 4, none⟩ = some nilS := by rw [HD.out.ob.cell]; rfl
              refine tillH_next (rs := [12]) (by kernel_rfl) (by simp) ?_
              refine NextH.cons rfl (fun K hK => ?_) NextH.nil
              go_simp
              refine hK.out _ _ (fun h => absurd h (by simp)) ?_
              clear hK K y4 y5
              (try simp only [Act.put, List.setIfInBounds_toArray, List.set_cons_zero, List.set_cons_succ])
              refine tillH_done (by kernel_rfl) ?_ _
              refine HKV.out _ _ ?_
              have HDD := Lib.hid (HD.out.done HV.out)
              clear HD HV S2
              go_wp2_with (fail)
              go_meet
              exact ⟨g, HDD⟩
            · go_simp
              have ba : Below E1.heap.size E1 (E1.alloc (.cells #[.int .i64 9, .int .i64 r, .string ⟨#[]⟩, .int .i64 10, .int .i64 0, .string ⟨#[]⟩, .int .i64 0, .int .i64 0, .string ⟨#[]⟩] 26)) := (Below.refl _ _).alloc (Nat.le_refl _) _
              have S1 : (E1.alloc (.cells #[.int .i64 9, .int .i64 r, .string ⟨#[]⟩, .int .i64 10, .int .i64 0, .string ⟨#[]⟩, .int .i64 0, .int .i64 0, .string ⟨#[]⟩] 26)).cell? ⟨m, 0, none⟩ = some (.pointer (some ⟨H, 0, none⟩)) ∧ (E1.alloc (.cells #[.int .i64 9, .int .i64 r, .string ⟨#[]⟩, .int .i64 10, .int .i64 0, .string ⟨#[]⟩, .int .i64 0, .int .i64 0, .string ⟨#[]⟩] 26)).cell? ⟨Y, 0, none⟩ = some (.int .i64 9) ∧ (E1.alloc (.cells #[.int .i64 9, .int .i64 r, .string ⟨#[]⟩, .int .i64 10, .int .i64 0, .string ⟨#[]⟩, .int .i64 0, .int .i64 0, .string ⟨#[]⟩] 26)).cell? ⟨Y, 1, none⟩ = some (.int .i64 r) ∧ (E1.alloc (.cells #[.int .i64 9, .int .i64 r, .string ⟨#[]⟩, .int .i64 10, .int .i64 0, .string ⟨#[]⟩, .int .i64 0, .int .i64 0, .string ⟨#[]⟩] 26)).cell? ⟨Y, 2, none⟩ = some (.string ⟨#[]⟩) := ⟨((ba).cell (World.block_lt_of_cell? _ _ S0.1)).trans S0.1, ((ba).cell (World.block_lt_of_cell? _ _ S0.2.1)).trans S0.2.1, ((ba).cell (World.block_lt_of_cell? _ _ S0.2.2.1)).trans S0.2.2.1, ((ba).cell (World.block_lt_of_cell? _ _ S0.2.2.2)).trans S0.2.2.2⟩
              have HV := Lib.hid (And.intro (Blk.new E1 26 #[.int .i64 9, .int .i64 r, .string ⟨#[]⟩, .int .i64 10, .int .i64 0, .string ⟨#[]⟩, .int .i64 0, .int .i64 0, .string ⟨#[]⟩]) HD.out.lowg)
              have HD := Lib.hid (HD.out.below ba)
              clear ba
              refine hK.out _ _ (fun _ => S1) ?_
              clear hK K
              (try simp only [Act.put, List.setIfInBounds_toArray, List.set_cons_zero, List.set_cons_succ])
              generalize E1.alloc (.cells #[.int .i64 9, .int .i64 r, .string ⟨#[]⟩, .int .i64 10, .int .i64 0, .string ⟨#[]⟩, .int .i64 0, .int .i64 0, .string ⟨#[]⟩] 26) = E2 at *
              generalize E1.heap.size = g at *
              refine tillH_next (rs := [5]) (by kernel_rfl) (by simp) ?_
              refine NextH.cons rfl (fun K hK => ?_) NextH.nil
              go_simp
              refine HD.out.of.mono ?_
              rintro e E3 ⟨rfl, bf⟩
              have S2 : (E3).cell? ⟨m, 0, none⟩ = some (.pointer (some ⟨H, 0, none⟩)) ∧ (E3).cell? ⟨Y, 0, none⟩ = some (.int .i64 9) ∧ (E3).cell? ⟨Y, 1, none⟩ = some (.int .i64 r) ∧ (E3).cell? ⟨Y, 2, none⟩ = some (.string ⟨#[]⟩) := ⟨((bf).cell (World.block_lt_of_cell? _ _ S1.1)).trans S1.1, ((bf).cell (World.block_lt_of_cell? _ _ S1.2.1)).trans S1.2.1, ((bf).cell (World.block_lt_of_cell? _ _ S1.2.2.1)).trans S1.2.2.1, ((bf).cell (World.block_lt_of_cell? _ _ S1.2.2.2)).trans S1.2.2.2⟩
              have HD := Lib.hid (HD.out.below bf)
              have HV := Lib.hid (And.intro (HV.out.1.below bf HV.out.1.lt) HV.out.2)
              clear bf
              refine hK.out _ _ (fun _ => S2) ?_
              clear hK K
              (try simp only [Act.put, List.setIfInBounds_toArray, List.set_cons_zero, List.set_cons_succ])
              refine tillH_takeAny (i := 10) (oi := ?oo11) (v := ?vv11) ?hi11 (by kernel_rfl) (by kernel_rfl) (by kernel_rfl) ?hq11 (by kernel_rfl) ?hy11 (fun _ => S2) ?hh11
              case hi11 => (simp only [List.getElem?_toArray, List.getElem?_cons_succ, List.getElem?_cons_zero]; rfl)
              case hq11 => exact fun _ _ _ h => h
              case hy11 => exact Or.inl ⟨by rfl, by (intro W; go_simp; (try with_reducible rfl))⟩
              (try simp only [Act.put, List.setIfInBounds_toArray, List.set_cons_zero, List.set_cons_succ])
              refine tillH_takeAny (i := 11) (oi := ?oo12) (v := ?vv12) ?hi12 (by kernel_rfl) (by kernel_rfl) (by kernel_rfl) ?hq12 (by kernel_rfl) ?hy12 (fun _ => S2) ?hh12
              case hi12 => (simp only [List.getElem?_toArray, List.getElem?_cons_succ, List.getElem?_cons_zero]; rfl)
              case hq12 => exact fun _ _ _ h => h
              case hy12 => exact Or.inl ⟨by rfl, by (intro W; go_simp; (try with_reducible rfl))⟩
              (try simp only [Act.put, List.setIfInBounds_toArray, List.set_cons_zero, List.set_cons_succ])
              have y4 : E3.frozen? ⟨b, 4, none⟩ = false := HD.out.ob.frozen 4
              have y5 : E3.cell? ⟨b, 4, none⟩ = some nilS := by rw [HD.out.ob.cell]; rfl
              refine tillH_next (rs := [12]) (by kernel_rfl) (by simp) ?_
              refine NextH.cons rfl (fun K hK => ?_) NextH.nil
              go_simp
              refine hK.out _ _ (fun h => absurd h (by simp)) ?_
              clear hK K y4 y5
              (try simp only [Act.put, List.setIfInBounds_toArray, List.set_cons_zero, List.set_cons_succ])
              refine tillH_done (by kernel_rfl) ?_ _
              refine HKV.out _ _ ?_
              have HDD := Lib.hid (HD.out.done HV.out)
              clear HD HV S2
              go_wp2_with (fail)
              go_meet
              exact ⟨g, HDD⟩
            -- END 18
          case rest =>
          obtain ⟨g, HDD⟩ := hcut
          clear HC HS
          have x0 : wc.cell? ⟨X, 0, none⟩ = some (.int .i64 rx) := by rw [HDD.out.xb.cell]; rfl
          have x1 : wc.cell? ⟨X, 1, none⟩ = some (.int .i64 sx) := by rw [HDD.out.xb.cell]; rfl
          have x2 : wc.cell? ⟨X, 2, none⟩ = some (.string ⟨#[]⟩) := by rw [HDD.out.xb.cell]; rfl
          have hSv : Shs False (fun _ => False) m wc cs2 0 (rx, sx, ⟨#[]⟩) ws := by
            have h1 := HJ.out.2.2.2.1 0 (by omega)
            rw [HDL.out.1] at h1
            have h2 := h1.mono (HDD.out.kp.e _) (some (tObj, b), false)
            rw [← HCS.out] at h2
            exact h2.unbox
          go_wp2_with (fail)
          refine (Show_any m rx sx ⟨#[]⟩ ⟨ws.toArray⟩ (by have := HDL.out.2; show ws.toArray.size ≤ _; rw [List.size_toArray]; omega) _ (fun W hW => shs_show HDD.out.ms (by have := HDD.out.len; omega) (fun W' hW' => HT.out.below (HDD.out.bel.trans (hW'.mono HDD.out.bel.size))) hSv W hW)).mono ?_
          rintro e w5 ⟨rfl, b5⟩
          have HE := Lib.hid (HDD.out.below b5)
          clear HDD b5 x0 x1 x2 hSv
          have y0 : w5.cell? ⟨Y, 0, none⟩ = some (.int .i64 9) := by rw [HE.out.yb.cell]; rfl
          have y1 : w5.cell? ⟨Y, 1, none⟩ = some (.int .i64 r) := by rw [HE.out.yb.cell]; rfl
          have y2 : w5.cell? ⟨Y, 2, none⟩ = some (.string ⟨#[]⟩) := by rw [HE.out.yb.cell]; rfl
          go_wp2_with (fail)
          refine (Show_any m 9 r ⟨#[]⟩ ⟨circ.toArray⟩ (by show circ.toArray.size ≤ _; decide) _ (fun W hW => shs_show HE.out.ms (by have := HE.out.len; omega) (fun W' hW' => HT.out.below (HE.out.bel.trans (hW'.mono HE.out.bel.size))) HE.out.circle W hW)).mono ?_
          rintro e w6 ⟨rfl, b6⟩
          have HB := Lib.hid (HE.out.bel.trans (b6.mono HE.out.bel.size))
          clear HE b6 y0 y1 y2
          go_wp2
          go_ret
          exact ⟨rfl, HB.out⟩
end Go.Proofs.YtdeboajjhpecbaaDoor.Hp
