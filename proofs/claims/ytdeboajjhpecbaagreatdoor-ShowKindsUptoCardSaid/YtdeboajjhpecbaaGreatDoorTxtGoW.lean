/- Contract of text.Go: the text of Go of a string of units. -/
import Derived.Test.YtdeboajjhpecbaaGreatDoorTxtM
import Derived.Test.YtdeboajjhpecbaaGreatDoorTxtE
import Derived.Test.YtdeboajjhpecbaaGreatDoorBldR
set_option linter.unusedVariables false
set_option linter.unusedSimpArgs false
namespace Go.Proofs.YtdeboajjhpecbaaGreatDoor.Tx
open Go.RowKit Go.Shelf
attribute [local go_sem] Oper.semAt_some

/-- A sign as the loop's body is handed it. -/
abbrev Sign := { x : List Nat // SignOK x ∧ Fits x }
def rowsOf (pre : List Sign) : List (List Nat) := pre.map (·.1)
theorem signs_sub (l : List Nat) (hf : Fits l) : ∃ T : List Sign, rowsOf T = signs l :=
  ⟨(signs l).attach.map (fun x => ⟨x.1, signs_ok l x.1 x.2, signs_fits hf x.1 x.2⟩), by simp [rowsOf, List.map_map, Function.comp_def]⟩

abbrev Bld (b : Nat) (acc : List UInt8) (W : World) : Prop := Lib.IsBuilderF 109 5 b b (Lib.byteCells acc) W
theorem bld_heap {b : Nat} {acc : List UInt8} {W : World} (h : Bld b acc W) : ∃ p v, W.heap[b]? = some (.cells #[p, v] 109 (0, 0)) := by
  rcases h with ⟨_, v, h, _⟩ | ⟨_, v, h, _⟩ <;> exact ⟨_, v, h⟩
theorem bldAt_kept {b : Nat} {p : Value} {bs : List Value} {W W' : World} {row : Option Nat} (h : Lib.BuilderAtF 109 5 b b p bs W) (hg : W.grownBy W' row) (hr : ∀ r, row = some r → ∃ o : Obj, W.heap[r]? = some o ∧ o.isCells = false) : Lib.BuilderAtF 109 5 b b p bs W' := by
  obtain ⟨hB, v, hb, hown, hne⟩ := h
  refine ⟨hB, v, cells_kept hg hr hb, ⟨hown.1, ?_⟩, hne⟩
  rcases hown.2 with hn | ⟨g, cap, cur, fz, hv, hbg, hgg, rest⟩
  · exact .inl hn
  · exact .inr ⟨g, cap, cur, fz, hv, hbg, cells_kept hg hr hgg, rest⟩
theorem bld_kept {b : Nat} {acc : List UInt8} {W W' : World} {row : Option Nat} (h : Bld b acc W) (hg : W.grownBy W' row) (hr : ∀ r, row = some r → ∃ o : Obj, W.heap[r]? = some o ∧ o.isCells = false) : Bld b acc W' :=
  h.elim (fun x => .inl (bldAt_kept x hg hr)) (fun x => .inr (bldAt_kept x hg hr))
theorem bld_drew {b : Nat} {acc : List UInt8} {W : World} (h : Bld b acc W) (n : Nat) : Bld b acc (W.drewN n) :=
  bld_kept h (row := none) (grown_none (below_drewN (Below.refl _ _) n)) (fun _ e => by cases e)

/-- What a write to the builder keeps. -/
structure Wrote (b Bs : Nat) (W W' : World) : Prop where
  others : KeepsOthers W W'
  box : KeepAt Bs W W'
  below : Below b W W'
theorem Wrote.refl (b Bs : Nat) (W : World) : Wrote b Bs W W := ⟨KeepsOthers.refl W, rfl, Below.refl _ _⟩
theorem Wrote.trans {b Bs : Nat} {A B C : World} (h : Wrote b Bs A B) (k : Wrote b Bs B C) : Wrote b Bs A C := ⟨h.others.trans k.others, keepAt_t h.box k.box, h.below.trans k.below⟩
theorem wrote_of {b Bs : Nat} {acc : List UInt8} {s : ByteArray} {W W' : World} (hI : Bld b acc W) (hbox : Boxed W Bs 9 (.string s)) (hne : Bs ≠ b) (hb : Below b W W') (hk : Lib.OthersKept 5 (some b) W W') : Wrote b Bs W W' := by
  obtain ⟨p, v, hh⟩ := bld_heap hI
  refine ⟨⟨hb.size, fun k o hk' ho => hk k o hk' (fun e => ?_) (fun c fz e => ?_)⟩, ?_, hb⟩
  · obtain rfl := Option.some.inj e
    rw [hh] at hk'
    obtain rfl := Option.some.inj hk'
    simp [Obj.isCells] at ho
  · subst e; simp [Obj.isCells] at ho
  · refine (hk Bs _ hbox (fun e => hne (Option.some.inj e)) (fun c fz e => ?_)).trans (show W.heap[Bs]? = _ from hbox).symm
    exact absurd (Obj.cells.inj e).2.1 (by decide)
theorem boxed_keepAt {W W' : World} {Bs : Nat} {t : TypeId} {v : Value} (h : Boxed W Bs t v) (k : KeepAt Bs W W') : Boxed W' Bs t v := (show W'.heap[Bs]? = _ from k).trans h

/-- Between two rounds. -/
structure GoI (w : World) (s : ByteArray) (pre : List Sign) (W : World) : Prop where
  bld : Bld w.heap.size (goB (rowsOf pre)) W
  str : Boxed W (w.heap.size + 1) 9 (.string s)
  below : Below w.heap.size w W
theorem goI_own (w : World) (s : ByteArray) (B : Nat) (hB : w.heap.size ≤ B) : OwnFrom B (GoI w s) := by
  intro x W W' row hs hg hr
  exact ⟨bld_kept hs.bld hg (fun r e => (hr r e).2), cells_kept hg (fun r e => (hr r e).2) hs.str, hs.below.grown hg hs.below.size (fun k e => by have := (hr k e).1; omega)⟩

theorem strCells_two (a b : UInt8) : Lib.strCells ⟨#[a, b]⟩ = Lib.byteCells [a, b] := rfl
theorem byteCells_app (l m : List UInt8) : Lib.byteCells l ++ Lib.byteCells m = Lib.byteCells (l ++ m) := by simp [Lib.byteCells]
theorem and15 (x : Int) (h0 : 0 ≤ x) (h1 : x < 2147483648) : bits .and .i32 x 15 = x % 16 :=
  bits_mask .i32 31 (by decide) wraps_i32 4 (by decide) x h0 h1

/-- One write, as the walk takes it. -/
theorem wrs (b Bs : Nat) (acc : List UInt8) (x y : UInt8) (s : ByteArray) (W : World) (hI : Bld b acc W) (hbox : Boxed W Bs 9 (.string s)) (hne : Bs ≠ b) (hb : b ≤ W.heap.size) (hl : acc.length ≤ 1000000) :
    Calls Tryz.prog 42 #[.pointer (some ⟨b, 0, none⟩), .string ⟨#[x, y]⟩] W fun e w' => e = .returned (.tuple #[.int .i64 2, .nilIface]) ∧ Bld b (acc ++ [x, y]) w' ∧ Wrote b Bs W w' ∧ Boxed w' Bs 9 (.string s) := by
  refine (WriteString_k b b (Lib.byteCells acc) ⟨#[x, y]⟩ W hI (by rw [Lib.byteCells_length]; show _ + 2 ≤ _; omega) hb).mono ?_
  rintro e w' ⟨rfl, h1, h2, h3⟩
  have hw := wrote_of hI hbox hne h2 h3
  rw [strCells_two, byteCells_app] at h1
  exact ⟨rfl, .inr h1, hw, boxed_keepAt hbox hw.box⟩
theorem wrr (b Bs : Nat) (acc : List UInt8) (r : Int) (hr0 : 0 ≤ r) (hr1 : r ≤ 1114111) (s : ByteArray) (W : World) (hI : Bld b acc W) (hbox : Boxed W Bs 9 (.string s)) (hne : Bs ≠ b) (hb : b ≤ W.heap.size) (hl : acc.length ≤ 1000000) :
    Calls Tryz.prog 45 #[.pointer (some ⟨b, 0, none⟩), .int .i32 r] W fun e w' => e = .returned (.tuple #[.int .i64 (Lib.runeCells r).length, .nilIface]) ∧ Bld b (acc ++ Lib.encodeRune r) w' ∧ Wrote b Bs W w' ∧ Boxed w' Bs 9 (.string s) := by
  refine (WriteRune_k b b (Lib.byteCells acc) r (by omega) (by omega) W hI (by rw [Lib.byteCells_length]; omega) hb).mono ?_
  rintro e w' ⟨rfl, h1, h2, h3⟩
  have hw := wrote_of hI hbox hne h2 h3
  rw [← Lib.byteCells_encodeRune, byteCells_app] at h1
  exact ⟨rfl, .inr h1, hw, boxed_keepAt hbox hw.box⟩
theorem wrb (b Bs : Nat) (acc : List UInt8) (c : UInt8) (s : ByteArray) (W : World) (hI : Bld b acc W) (hbox : Boxed W Bs 9 (.string s)) (hne : Bs ≠ b) (hb : b ≤ W.heap.size) (hl : acc.length ≤ 1000000) :
    Calls Tryz.prog 44 #[.pointer (some ⟨b, 0, none⟩), .int .u8 (c.toNat : Int)] W fun e w' => e = .returned .nilIface ∧ Bld b (acc ++ [c]) w' ∧ Wrote b Bs W w' ∧ Boxed w' Bs 9 (.string s) := by
  refine (WriteByte_k b b (Lib.byteCells acc) (c.toNat : Int) W hI (by rw [Lib.byteCells_length]; omega) hb).mono ?_
  rintro e w' ⟨rfl, h1, h2, h3⟩
  have hw := wrote_of hI hbox hne h2 h3
  rw [show [Value.int .u8 (c.toNat : Int)] = Lib.byteCells [c] from rfl, byteCells_app] at h1
  exact ⟨rfl, h1, hw, boxed_keepAt hbox hw.box⟩

set_option maxHeartbeats 8000000 in
set_option maxRecDepth 100000 in
theorem go_uS (l : List Nat) (hf : Fits l) (w : World) (hn : l.length ≤ 100000) :
    Calls Tryz.prog 30 #[.string (uS l)] w fun e w' => e = .returned (.string ⟨(goB (signs l)).toArray⟩) ∧ Below w.heap.size w w' := by
  obtain ⟨T, hT⟩ := signs_sub l hf
  refine (callsIn_wide (n := 4)).1 ?_
  refine callsIn_of_wp_marks Tryz.func30 rfl trivial ?_ rfl
  simp only [Tryz.ntmps30, List.size_toArray, List.length_cons, List.length_nil, Nat.reduceAdd, Nat.reduceSub, Array.replicate_succ, Array.replicate_zero, List.push_toArray, List.append_toArray, List.nil_append, List.cons_append]
  gi_wp2_with (fail)
  refine ⟨trivial, ?_⟩
  refine (points_in _ _ _).mono ?_
  rintro e w' ⟨rfl, rfl⟩
  gi_wp2_with (fail)
  have x1 : Bld w.heap.size (goB (rowsOf [])) ((w.alloc (.cells #[.pointer none, .slice none 0 0] 109)).alloc (.cells #[.string (uS l)] 9)) :=
    (Lib.IsBuilderF.of (Lib.fresh_isBuilder 109 5 w)).alloc _
  have x2 : Boxed ((w.alloc (.cells #[.pointer none, .slice none 0 0] 109)).alloc (.cells #[.string (uS l)] 9)) (w.heap.size + 1) 9 (.string (uS l)) := by
    have := Boxed.new (w.alloc (.cells #[.pointer none, .slice none 0 0] 109)) 9 (.string (uS l))
    simpa using this
  have x3 : Below w.heap.size w ((w.alloc (.cells #[.pointer none, .slice none 0 0] 109)).alloc (.cells #[.string (uS l)] 9)) := ((Below.refl _ _).alloc (Nat.le_refl _) _).alloc (by simp) _
  obtain ⟨w5, hw5⟩ : ∃ w5, w5 = ((w.alloc (.cells #[.pointer none, .slice none 0 0] 109)).alloc (.cells #[.string (uS l)] 9)) := ⟨_, rfl⟩
  rw [← hw5] at x1 x2 x3
  simp only [← hw5]
  clear hw5
  refine wpIn_rangeFunc_ownF (n := 4) rfl (by decide) (gf := 61) (lb := #[.pointer (some ⟨w.heap.size + 1, 0, none⟩)]) (by rfl) trivial (enters_of Tryz.func61 (by kernel_rfl) rfl)
    (points_stops (fun x : Sign => uS x.1) T (4 - 1) (by decide) (w.heap.size + 1) l l.length rfl hf (by omega) (by rw [← hT]; simp [rowsOf, Function.comp_def]) w5 x2.lt x2.cell) keepAt_t (keepAt_b x2.lt) (Below.refl _ _) (fun _ => rfl)
    (GoI w (uS l)) (fun _ _ _ => False) (goI_own w _ _ x3.size) (fun c s W W' row hs _ _ => hs)
    ⟨x1, x2, x3⟩
    (fun x => { tmps := #[.string (uS l), undef, .string ⟨#[]⟩, .pointer (some ⟨w.heap.size, 0, none⟩), .string (uS x.1), undef, undef, undef, .string (uS l), .func (.func 61) #[] #[.pointer (some ⟨w.heap.size + 1, 0, none⟩)], .string (uS x.1), undef, undef, undef, undef, undef, undef, undef, undef, undef, undef, undef, undef, undef, undef, undef, undef, undef, undef, undef, undef, undef, undef, undef, undef, undef, undef, undef, undef, undef, undef, undef, undef, undef, undef], defers := [] }) ?assign ?body ?done ?stop
  case assign =>
    intro ll x W K hK
    gi_wp2
    exact hK
  case body =>
    rintro ll pre ⟨x, hSO, hFx⟩ W hI hlen
    dsimp only
    have hbW := hI.below.size
    have hcb := goB_length (rowsOf pre)
    have hrl : (rowsOf pre).length = pre.length := by simp [rowsOf]
    have hal : (goB (rowsOf pre)).length + 6 ≤ 1000000 := by omega
    have hx2 : 0 < x.length ∧ x.length ≤ 2 := by rcases hSO with ⟨u, rfl⟩ | ⟨u, v, rfl, _⟩ <;> simp
    have hps := point_uS x hFx 0 W hx2.1 (by omega)
    have hpt := signR_pt hSO
    rw [Nat.zero_add, hpt.1] at hps
    have hmx := signR_max hSO hFx
    have hsnoc : goB (rowsOf (pre ++ [⟨x, hSO, hFx⟩])) = goB (rowsOf pre) ++ goPiece (signR x) := by
      rw [← goB_snoc]; simp [rowsOf]
    obtain ⟨c, hc⟩ : ∃ c, signR x = c := ⟨_, rfl⟩
    obtain ⟨m, hm⟩ : ∃ m, ptAt x 0 = m := ⟨_, rfl⟩
    obtain ⟨C, hC⟩ : ∃ C : Int, (c : Int) = C := ⟨_, rfl⟩
    rw [hc, hm, hC] at hps
    rw [hc] at hmx hsnoc
    have hC0 : 0 ≤ C := by omega
    have hC1 : C ≤ 1114111 := by omega
    have HS := Lib.hid hsnoc
    have hne : w.heap.size + 1 ≠ w.heap.size := by omega
    clear hsnoc hpt hc hm hrl hcb hlen
    gi_wp2_with (fail)
    refine ⟨trivial, ?_⟩
    refine (CallsIn.inRound ll (callsIn_wide.2 hps)).mono ?_
    rintro e W1 ⟨rfl, q, rfl⟩
    have hIq := bld_drew hI.bld q
    have hWq : Wrote w.heap.size (w.heap.size + 1) W (W.drewN q) := ⟨keepsOthers_below (below_drewN (Below.refl _ _) q), keepAt_below (below_drewN (Below.refl _ _) q) hI.str.lt, below_drewN (Below.refl _ _) q⟩
    have hSq := boxed_keepAt hI.str hWq.box
    have hzq : w.heap.size ≤ (W.drewN q).heap.size := Nat.le_trans hbW hWq.others.size
    have hbl := hI.below
    obtain ⟨W1, hW1⟩ : ∃ W1, W.drewN q = W1 := ⟨_, rfl⟩
    rw [hW1] at hIq hWq hSq hzq ⊢
    obtain ⟨acc, hacc⟩ : ∃ acc, goB (rowsOf pre) = acc := ⟨_, rfl⟩
    rw [hacc] at hIq hal HS
    have ha2 : acc.length ≤ 1000000 := by omega
    clear hps hbW hI hW1 hacc
    by_cases c1 : C = 92
    · have hp : goPiece c = [92, 92] := by rw [show c = 92 by omega]; rfl
      rw [hp] at HS
      subst c1
      clear hp hC
      gi_wp2_with (fail)
      refine ⟨trivial, ?_⟩
      refine (CallsIn.inRound ll (callsIn_wide.2 (wrs w.heap.size (w.heap.size + 1) acc 92 92 (uS l) W1 hIq hSq hne hzq ha2))).mono ?_
      rintro e W2 ⟨rfl, hI2, hw2, hS2⟩
      gi_wp2
      exact ⟨(hWq.trans hw2).others, (hWq.trans hw2).box, by rw [HS.out]; exact hI2, hS2, hbl.trans (hWq.trans hw2).below⟩
    · have t1 : (C == 92) = false := by rw [beq_eq_false_iff_ne]; exact c1
      obtain ⟨bh, hbh⟩ : ∃ b, b = halfB C := ⟨_, rfl⟩
      have Hbh := Lib.hid hbh
      by_cases he : escB c = true
      · have hp : goPiece c = 92 :: 117 :: hexB C.toNat := by rw [goPiece_esc c (by omega) he, show C.toNat = c by omega]
        rw [hp] at HS
        have he2 : C < 32 ∨ C = 127 ∨ (55296 ≤ C ∧ C ≤ 57343) := by rw [escB, decide_eq_true_eq] at he; omega
        clear hp hC
        by_cases c2 : C < 32
        case' pos =>
          have t2 : decide (C < 32) = true := by simp; omega
        case' neg =>
          have t2 : decide (C < 32) = false := by simp; omega
          by_cases c3 : C = 127
          case' pos =>
            have t3 : (C == 127) = true := by rw [beq_iff_eq]; exact c3
            have C3 := Lib.hid c3
            clear c3
          case' neg =>
            have t3 : (C == 127) = false := by rw [beq_eq_false_iff_ne]; exact c3
            obtain rfl : bh = true := by rw [hbh, halfB, decide_eq_true]; omega
        all_goals
          clear he he2 hbh
          gi_wp2_with (first
            | (refine ⟨trivial, ?_⟩; gi_at_call 43; (with_reducible refine (CallsIn.inRound ll (callsIn_wide.2 (half_any C true _ Hbh))).mono ?_); rintro e w' ⟨rfl, rfl⟩))
          have hwc := CallsIn.inRound (n := 4 - 1 - 1 - 1) ll (callsIn_wide.2 (wrs w.heap.size (w.heap.size + 1) acc 92 117 (uS l) W1 hIq hSq hne hzq ha2))
          first
            | (refine ⟨trivial, ?_⟩; (with_reducible refine hwc.mono ?_))
            | (refine ⟨trivial, ?_⟩; gi_wp2_with (fail); refine ⟨trivial, ?_⟩; (with_reducible refine hwc.mono ?_))
          clear hwc
          rintro e W2 ⟨rfl, hI2, hw2, hS2⟩
          gi_wp2_with (fail)
          gi_loopw [7] (fun k wr => ∃ j : Nat, j ≤ 4 ∧ k = .int .i64 (12 - 4 * (j : Int)) ∧ Bld w.heap.size (acc ++ [92, 117] ++ (hexB C.toNat).take j) wr ∧ Wrote w.heap.size (w.heap.size + 1) W1 wr ∧ Boxed wr (w.heap.size + 1) 9 (.string (uS l))) (fun k _ => (intOf k + 4).toNat)
          case atStart => exact ⟨0, by omega, rfl, by simpa using hI2, hw2, hS2⟩
          case round =>
            obtain ⟨j, hj, rfl, hIj, hwj, hSj⟩ := hrel
            have hzj : w.heap.size ≤ wr.heap.size := Nat.le_trans hzq hwj.others.size
            match j, hj with
            | 0, _ =>
              have y1 := and15 (C / 4096) (by omega) (by omega)
              have p0 : 0 ≤ C / 4096 % 16 := by omega
              have p1 : C / 4096 % 16 < 16 := by omega
              have hlj : (acc ++ [92, 117] ++ (hexB C.toNat).take 0).length ≤ 1000000 := by simp [hexB]; omega
              have hst : acc ++ [92, 117] ++ (hexB C.toNat).take (0 + 1) = (acc ++ [92, 117] ++ (hexB C.toNat).take 0) ++ [hx (C / 4096 % 16).toNat] := by
                rw [show (C / 4096 % 16).toNat = C.toNat / 4096 % 16 by omega]; simp [hexB]
              have HJ := Lib.hid hst
              clear hst
              gi_wp2_with (fail)
              rw [hex_at]
              refine ⟨trivial, ?_⟩
              refine (CallsIn.inRound ll (callsIn_wide.2 (wrb w.heap.size (w.heap.size + 1) _ (hx (C / 4096 % 16).toNat) (uS l) wr hIj hSj hne hzj hlj))).mono ?_
              rintro e W3 ⟨rfl, hI3, hw3, hS3⟩
              gi_wp2
              go_roundw
              case rel => exact ⟨0 + 1, by omega, rfl, by rw [HJ.out]; exact hI3, hwj.trans hw3, hS3⟩
              case measure => simp [intOf]
            | 1, _ =>
              have y1 := and15 (C / 256) (by omega) (by omega)
              have p0 : 0 ≤ C / 256 % 16 := by omega
              have p1 : C / 256 % 16 < 16 := by omega
              have hlj : (acc ++ [92, 117] ++ (hexB C.toNat).take 1).length ≤ 1000000 := by simp [hexB]; omega
              have hst : acc ++ [92, 117] ++ (hexB C.toNat).take (1 + 1) = (acc ++ [92, 117] ++ (hexB C.toNat).take 1) ++ [hx (C / 256 % 16).toNat] := by
                rw [show (C / 256 % 16).toNat = C.toNat / 256 % 16 by omega]; simp [hexB]
              have HJ := Lib.hid hst
              clear hst
              gi_wp2_with (fail)
              rw [hex_at]
              refine ⟨trivial, ?_⟩
              refine (CallsIn.inRound ll (callsIn_wide.2 (wrb w.heap.size (w.heap.size + 1) _ (hx (C / 256 % 16).toNat) (uS l) wr hIj hSj hne hzj hlj))).mono ?_
              rintro e W3 ⟨rfl, hI3, hw3, hS3⟩
              gi_wp2
              go_roundw
              case rel => exact ⟨1 + 1, by omega, rfl, by rw [HJ.out]; exact hI3, hwj.trans hw3, hS3⟩
              case measure => simp [intOf]
            | 2, _ =>
              have y1 := and15 (C / 16) (by omega) (by omega)
              have p0 : 0 ≤ C / 16 % 16 := by omega
              have p1 : C / 16 % 16 < 16 := by omega
              have hlj : (acc ++ [92, 117] ++ (hexB C.toNat).take 2).length ≤ 1000000 := by simp [hexB]; omega
              have hst : acc ++ [92, 117] ++ (hexB C.toNat).take (2 + 1) = (acc ++ [92, 117] ++ (hexB C.toNat).take 2) ++ [hx (C / 16 % 16).toNat] := by
                rw [show (C / 16 % 16).toNat = C.toNat / 16 % 16 by omega]; simp [hexB]
              have HJ := Lib.hid hst
              clear hst
              gi_wp2_with (fail)
              rw [hex_at]
              refine ⟨trivial, ?_⟩
              refine (CallsIn.inRound ll (callsIn_wide.2 (wrb w.heap.size (w.heap.size + 1) _ (hx (C / 16 % 16).toNat) (uS l) wr hIj hSj hne hzj hlj))).mono ?_
              rintro e W3 ⟨rfl, hI3, hw3, hS3⟩
              gi_wp2
              go_roundw
              case rel => exact ⟨2 + 1, by omega, rfl, by rw [HJ.out]; exact hI3, hwj.trans hw3, hS3⟩
              case measure => simp [intOf]
            | 3, _ =>
              have y1 := and15 (C) (by omega) (by omega)
              have p0 : 0 ≤ C % 16 := by omega
              have p1 : C % 16 < 16 := by omega
              have hlj : (acc ++ [92, 117] ++ (hexB C.toNat).take 3).length ≤ 1000000 := by simp [hexB]; omega
              have hst : acc ++ [92, 117] ++ (hexB C.toNat).take (3 + 1) = (acc ++ [92, 117] ++ (hexB C.toNat).take 3) ++ [hx (C % 16).toNat] := by
                rw [show (C % 16).toNat = C.toNat % 16 by omega]; simp [hexB]
              have HJ := Lib.hid hst
              clear hst
              gi_wp2_with (fail)
              rw [hex_at]
              refine ⟨trivial, ?_⟩
              refine (CallsIn.inRound ll (callsIn_wide.2 (wrb w.heap.size (w.heap.size + 1) _ (hx (C % 16).toNat) (uS l) wr hIj hSj hne hzj hlj))).mono ?_
              rintro e W3 ⟨rfl, hI3, hw3, hS3⟩
              gi_wp2
              go_roundw
              case rel => exact ⟨3 + 1, by omega, rfl, by rw [HJ.out]; exact hI3, hwj.trans hw3, hS3⟩
              case measure => simp [intOf]
            | 4, _ =>
              have hfin : acc ++ [92, 117] ++ (hexB C.toNat).take 4 = acc ++ 92 :: 117 :: hexB C.toNat := by simp [hexB]
              have HF := Lib.hid hfin
              clear hfin
              gi_wp2
              exact ⟨(hWq.trans hwj).others, (hWq.trans hwj).box, by rw [HS.out, ← HF.out]; exact hIj, hSj, hbl.trans (hWq.trans hwj).below⟩
      · have he0 : escB c = false := by simpa using he
        have hp : goPiece c = Lib.encodeRune C := by rw [goPiece_enc c (by omega) he0, hC]
        rw [hp] at HS
        have he2 : 32 ≤ C ∧ C ≠ 127 ∧ (C < 55296 ∨ 57343 < C) := by rw [escB, decide_eq_true_eq] at he; omega
        have t2 : decide (C < 32) = false := by simp; omega
        have t3 : (C == 127) = false := by rw [beq_eq_false_iff_ne]; exact he2.2.1
        obtain rfl : bh = false := by rw [hbh, halfB, decide_eq_false]; omega
        clear he he2 he0 hbh hp hC
        gi_wp2_with (refine ⟨trivial, ?_⟩; gi_at_call 43; (with_reducible refine (CallsIn.inRound ll (callsIn_wide.2 (half_any C false _ Hbh))).mono ?_); rintro e w' ⟨rfl, rfl⟩)
        refine ⟨trivial, ?_⟩
        refine (CallsIn.inRound ll (callsIn_wide.2 (wrr w.heap.size (w.heap.size + 1) acc C hC0 hC1 (uS l) W1 hIq hSq hne hzq ha2))).mono ?_
        rintro e W2 ⟨rfl, hI2, hw2, hS2⟩
        gi_wp2
        exact ⟨(hWq.trans hw2).others, (hWq.trans hw2).box, by rw [HS.out]; exact hI2, hS2, hbl.trans (hWq.trans hw2).below⟩
  case done =>
    rintro D ys W hD rfl hI hK
    have hbl := hI.below
    have hDw : w.heap.size ≤ D := by have := x3.size; omega
    have hbd := hI.bld
    rw [hT] at hbd
    gi_wp2_with (fail)
    refine ⟨trivial, ?_⟩
    refine (callsIn_wide.2 (Tryz.Builder_String_any_k w.heap.size w.heap.size _ W hbd hbl.size)).mono ?_
    rintro e W2 ⟨rfl, _, hb2, hk2⟩
    have hw2 := wrote_of hbd hI.str (by omega) hb2 hk2
    have hK2 := hw2.others.same D _ hK rfl
    gi_wp2
    refine ⟨by simp, .inl ⟨_, _, rfl, run_takeDeferred hK2, ?_⟩⟩
    exact ⟨_, results_tmp rfl _ _ _, rfl, (hbl.trans hb2).trans (belowK_b (w := w) (Nat.le_refl _) _ D _ _ hDw hK2 rfl rfl)⟩
  case stop =>
    rintro D c pre W hD hpre hX hK
    exact hX.elim
end Go.Proofs.YtdeboajjhpecbaaGreatDoor.Tx
