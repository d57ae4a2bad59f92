/- The walk of the statement TextSigns. -/
import Derived.Test.YtnkddcebhffidaaTxtY
import Derived.Test.YtnkddcebhffidaaTxtZ
import Derived.Test.YtnkddcebhffidaaOpen
import Derived.BigCall
set_option linter.unusedVariables false
set_option linter.unusedSimpArgs false
namespace Go.Proofs.Ytnkddcebhffidaa
open Go.RowKit Go.Shelf
attribute [local go_sem] Oper.semAt_some

/-- What a block that holds cells holds is kept by a step that turns a block of another kind. -/
theorem cells_kept {W W' : World} {row : Option Nat} (hg : W.grownBy W' row) (hr : ∀ r, row = some r → ∃ o : Obj, W.heap[r]? = some o ∧ o.isCells = false) {g : Nat} {cs : Array Value} {t : TypeId} {fz : Nat × Nat} (h : W.heap[g]? = some (.cells cs t fz)) : W'.heap[g]? = some (.cells cs t fz) := by
  refine (hg.block g (Array.getElem?_eq_some_iff.1 h).1 fun e => ?_).trans h
  obtain ⟨o, ho, hc⟩ := hr g e.symm
  rw [h] at ho
  obtain rfl := Option.some.inj ho
  simp [Obj.isCells] at hc
theorem keepsOthers_below {W W' : World} (b : Below W.heap.size W W') : KeepsOthers W W' := ⟨b.size, fun k o hk _ => (b.block k (Array.getElem?_eq_some_iff.1 hk).1).trans hk⟩
theorem keepAt_below {b : Nat} {W W' : World} (h : Below W.heap.size W W') (hb : b < W.heap.size) : KeepAt b W W' := h.block b hb
theorem keepAt_set {b b' : Nat} {W W' : World} (h : KeepAt b W W') (hb : b ≠ b') (v : Value) : KeepAt b W (W'.setCell ⟨b', 0, none⟩ v) := (Below.heap_setCell W' ⟨b', 0, none⟩ v b hb).trans h

theorem RowAt.far {B : Nat} {w w' : World} {v : Value} {l : List Nat} (h : RowAt B w v l) (b : Below w.heap.size w w') : RowAt B w' v l := h.below b
theorem RowsOwn.below {B : Nat} {w w' : World} {v : Value} {rows : List (List Nat)} (h : RowsOwn B w v rows) (b : Below w.heap.size w w') : RowsOwn B w' v rows := by
  obtain ⟨xs, ho, hF⟩ := h.is
  refine ⟨xs, ⟨ho.1, ?_⟩, forall2_imp (fun x r hx => hx.below b) hF⟩
  rcases ho.2 with h0 | ⟨g, cap, cur, h1, h2, h3, h4⟩
  · exact .inl h0
  · exact .inr ⟨g, cap, cur, h1, h2, (b.block g (Array.getElem?_eq_some_iff.1 h3).1).trans h3, h4⟩

theorem RowsOwn.shape {B : Nat} {w : World} {v : Value} {rows : List (List Nat)} (h : RowsOwn B w v rows) : ∃ A cap, v = .slice A rows.length cap := by
  obtain ⟨xs, ho, hF⟩ := h.is
  rcases ho.2 with ⟨rfl, h0⟩ | ⟨g, cap, cur, rfl, h2, h3, h4⟩
  · rw [h0]; exact ⟨none, 0, rfl⟩
  · exact ⟨_, _, rfl⟩
theorem fa2_at {α β : Type} {R : α → β → Prop} : ∀ {l : List α} {m : List β}, Fa2 R l m → ∀ (i : Nat) (b : β), m[i]? = some b → ∃ a, l[i]? = some a ∧ R a b
  | _, _, .nil, i, _, h => by simp at h
  | _, _, .cons a b, 0, _, h => by simp at h; subst h; exact ⟨_, rfl, a⟩
  | _, _, .cons a b, i + 1, y, h => by simpa using fa2_at b i y (by simpa using h)
/-- One of the rows, read. -/
theorem RowsOwn.at {B : Nat} {w : World} {A : Option Addr} {M capv : Nat} {rows : List (List Nat)} (h : RowsOwn B w (.slice A M capv) rows) (hM : rows.length = M) (k : Nat) (r : List Nat) (hr : rows[k]? = some r) (h2 : r.length ≤ 2) :
    ∃ g g', A = some ⟨g, 0, none⟩ ∧ w.cell? ⟨g, k, none⟩ = some (.slice (some ⟨g', 0, none⟩) r.length r.length) ∧ SliceR .i64 w (some ⟨g', 0, none⟩) r.length r.length (ints r) := by
  obtain ⟨xs, ho, hF⟩ := h.is
  obtain ⟨x, hx, hR⟩ := fa2_at hF k r hr
  obtain ⟨g', rfl, hS⟩ := hR.slice h2
  have hk : k < rows.length := (List.getElem?_eq_some_iff.1 hr).1
  subst hM
  rcases ho.2 with ⟨_, h0⟩ | ⟨g, cap, cur, he, h2', h3, h4⟩
  · omega
  · obtain ⟨rfl, _, rfl⟩ := Value.slice.inj he
    exact ⟨g, g', rfl, by rw [World.ownsRow.cellAt ho k (by omega)]; exact hx, hS⟩

/-- Between two rounds: the parts that have come; the rows' variable, the counter, the text's. -/
structure SgI (w : World) (v : Value) (s : ByteArray) (T : List ByteArray) (pre : List ByteArray) (W : World) : Prop where
  came : pre <+: T
  want : Boxed W w.heap.size 43 v
  cnt : Boxed W (w.heap.size + 1) 3 (.int .i64 (pre.length : Nat))
  str : Boxed W (w.heap.size + 1 + 1) 9 (.string s)
  old : Below w.heap.size w W
/-- A round has said no: then it was no sign of the string's. -/
structure SgX (T : List ByteArray) (pre : List ByteArray) (W : World) : Prop where
  no : ¬ pre <+: T

theorem sgI_own (w : World) (B : Nat) (v : Value) (s : ByteArray) (T : List ByteArray) (hB : w.heap.size ≤ B) : OwnFrom B (SgI w v s T) := by
  intro x W W' row hs hg hr
  have hc : ∀ {g : Nat} {cs : Array Value} {t : TypeId} {fz : Nat × Nat}, W.heap[g]? = some (.cells cs t fz) → W'.heap[g]? = some (.cells cs t fz) := cells_kept hg (fun r e => (hr r e).2)
  exact ⟨hs.came, hc hs.want, hc hs.cnt, hc hs.str, hs.old.grown hg hs.old.size (fun k e => by have := (hr k e).1; omega)⟩

theorem str_ext {a b : ByteArray} (h : a.toList = b.toList) : a = b := by
  have : a.data.toList = b.data.toList := by rw [← ByteArray.toList_eq, ← ByteArray.toList_eq, h]
  exact ByteArray.ext (Array.toList_inj.1 this)

theorem snoc_prefix {α : Type} {pre T : List α} {x : α} (h : pre <+: T) : (pre ++ [x]) <+: T ↔ T[pre.length]? = some x := by
  obtain ⟨t, rfl⟩ := h
  constructor
  · rintro ⟨u, hu⟩
    rw [List.append_assoc, List.append_right_inj] at hu
    subst hu; simp
  · intro hx
    cases t with
    | nil => simp at hx
    | cons y t => simp at hx; subst hx; exact ⟨t, by simp⟩

set_option maxHeartbeats 2000000 in
set_option maxRecDepth 100000 in
theorem point_out (s : ByteArray) (i : Int) (n : Nat) (w : World) (hs : s.size ≤ 9223372036854775807) (hn : Hid (n = s.size / 2)) (h : i < 0 ∨ (n : Int) ≤ i) :
    Calls Try.prog 24 #[.string s, .int .i64 i] w fun e w' => e = .returned (.tuple #[.int .i32 0, .int .i64 0]) ∧ w = w' := by
  by_cases h0 : i < 0
  case' pos =>
    have t0 : decide (i < 0) = true := by simp; omega
  case' neg =>
    have t0 : decide (i < 0) = false := by simp; omega
    have t1 : decide ((n : Int) ≤ i) = true := by simp; omega
  all_goals
    clear h
    go_enter Try.func24, Try.ntmps24
    go_wp2_with (go_at_call 20; (with_reducible refine (len_n _ n _ hs hn).mono ?_); rintro e w' ⟨rfl, rfl⟩)
    go_ret2
    exact ⟨rfl, rfl⟩

theorem sliceFrom {P : Program} {T E : TypeId} (ht : P.underlying T = some (.slice E)) (he : P.elem T = E) {i0 : TypeInfo} (hi0 : P.info? E = some i0) (hs : i0.size = 1) (a : Option Addr) (n cap lo : Nat) (h1 : lo ≤ n) (W : World) :
    (Instr.slice T (.slice a n cap) (some (.int .i64 (lo : Int))) none none).run P W = .ok (.slice (slAddr a lo cap) (n - lo) (cap - lo)) W := by
  rw [run_slice_l W T a n cap (by rw [he]; exact ht) .i64 lo (by omega) (by omega), he]
  simp [sizeOf, typeInfo, hi0, hs, Result.andThen, sliced, slAddr]

set_option maxHeartbeats 8000000 in
set_option maxRecDepth 100000 in
theorem signs_short (a : Option Addr) (n cap : Nat) (i : Int) (w : World) (l : List Nat) (hR : SliceR .u16 w a n cap (ints l)) (hl : l.length = n) (hf : Fits l) (h1 : n ≤ 3000) (wi : (Lit.int .i64 i).wf = true) :
    Calls Try.prog 7 #[.slice a n cap, .int .i64 i] w fun e w' => e = .returned (.bool true) ∧ Below w.heap.size w w' := by
  have t1 : decide ((3000 : Int) < (n : Int)) = false := by simp; omega
  have HL := Lib.hid hl
  clear hl
  refine (callsIn_wide (n := 4)).1 ?_
  refine callsIn_of_wp_marks Try.func7 rfl trivial ?_ rfl
  simp only [Try.ntmps7, List.size_toArray, List.length_cons, List.length_nil, Nat.reduceAdd, Nat.reduceSub, Array.replicate_succ, Array.replicate_zero, List.push_toArray, List.append_toArray, List.nil_append, List.cons_append]
  gi_wp2_with (fail)
  refine ⟨trivial, ?_⟩
  refine (callsIn_wide.2 (fit_any _)).mono ?_
  rintro e w1 ⟨rfl, b1⟩
  have r1 : Boxed w1 w.heap.size 4 (.bool false) := (b1.block _ (by simp)).trans (Boxed.new w _ _)
  have bb1 : Below w.heap.size w w1 := ((Below.refl _ _).alloc (Nat.le_refl _) _).trans (b1.mono (by simp))
  have hsz : w.heap.size < w1.heap.size := by have := b1.size; simp at this; omega
  clear b1
  gi_wp2_with (fail)
  refine ⟨trivial, ?_⟩
  refine (callsIn_wide.2 (lawStr_any a n cap l _ (hR.below bb1) hf (by omega))).mono ?_
  rintro e w2 ⟨rfl, b2⟩
  have r2 : Boxed w2 w.heap.size 4 (.bool false) := (b2.block _ hsz).trans r1
  have bb2 := bb1.trans (b2.mono bb1.size)
  have hsz2 := Nat.lt_of_lt_of_le hsz b2.size
  clear b2 r1 bb1 hsz
  gi_wp2_with (fail)
  refine ⟨trivial, ?_⟩
  refine (callsIn_wide.2 (list_uS l hf _ (by rw [HL.out]; omega))).mono ?_
  rintro e w3 ⟨a3, cap3, rfl, hR3, hB3, b3⟩
  rw [HL.out] at hR3
  have r3 : Boxed w3 w.heap.size 4 (.bool false) := (b3.block _ hsz2).trans r2
  have bb3 := bb2.trans (b3.mono bb2.size)
  have hsz3 := Nat.lt_of_lt_of_le hsz2 b3.size
  clear b3 r2 bb2 hsz2 hB3
  gi_wp2_with (fail)
  refine ⟨trivial, ?_⟩
  rw [HL.out]
  refine (callsIn_wide.2 (refSigns_any a3 n cap3 l _ hR3 hf (by omega))).mono ?_
  rintro e w4 ⟨v, rfl, hrows, b4⟩
  have r4 : Boxed w4 w.heap.size 4 (.bool false) := (b4.block _ hsz3).trans r3
  have bb4 := bb3.trans (b4.mono bb3.size)
  have hsz4 := Nat.lt_of_lt_of_le hsz3 b4.size
  clear b4 r3 bb3 hsz3 hR3
  obtain ⟨A, capv, rfl⟩ := hrows.shape
  obtain ⟨rows, hrs⟩ : ∃ rows, rows = signs l := ⟨_, rfl⟩
  have hok : ∀ x, x ∈ rows → SignOK x := by rw [hrs]; exact signs_ok l
  have hfit : ∀ x, x ∈ rows → Fits x := by rw [hrs]; exact signs_fits hf
  have hMn : rows.length ≤ n := by rw [hrs, ← HL.out]; exact signs_len l
  rw [← hrs] at hrows ⊢
  obtain ⟨M, hM⟩ : ∃ M, rows.length = M := ⟨_, rfl⟩
  rw [hM] at hrows hMn ⊢
  have Hrs := Lib.hid hrs
  have HM := Lib.hid hM
  clear hrs hM
  obtain ⟨T, hT⟩ : ∃ T, T = rows.map uS := ⟨_, rfl⟩
  have HT := Lib.hid hT
  clear hT
  gi_wp2_with (gi_at_call 22; refine (points_in _ _ _).mono ?_; rintro e w' ⟨rfl, rfl⟩)
  refine ⟨trivial, ?_⟩
  refine (points_in _ _ _).mono ?_
  rintro e w' ⟨rfl, rfl⟩
  gi_wp2_with (fail)
  have x6 : Boxed (((w4.alloc (.cells #[.slice A M capv] 43)).alloc (.cells #[.int .i64 0] 3)).alloc (.cells #[.string (uS l)] 9)) w4.heap.size 43 (.slice A M capv) := ((Boxed.new w4 _ _).alloc _).alloc _
  have x7 : Boxed (((w4.alloc (.cells #[.slice A M capv] 43)).alloc (.cells #[.int .i64 0] 3)).alloc (.cells #[.string (uS l)] 9)) (w4.heap.size + 1) 3 (.int .i64 0) := by
    have := (Boxed.new (w4.alloc (.cells #[.slice A M capv] 43)) 3 (.int .i64 0)).alloc (.cells #[.string (uS l)] 9)
    simpa using this
  have x8 : Boxed (((w4.alloc (.cells #[.slice A M capv] 43)).alloc (.cells #[.int .i64 0] 3)).alloc (.cells #[.string (uS l)] 9)) (w4.heap.size + 1 + 1) 9 (.string (uS l)) := by
    have := Boxed.new ((w4.alloc (.cells #[.slice A M capv] 43)).alloc (.cells #[.int .i64 0] 3)) 9 (.string (uS l))
    simpa using this
  have x9 : Below w4.heap.size w4 (((w4.alloc (.cells #[.slice A M capv] 43)).alloc (.cells #[.int .i64 0] 3)).alloc (.cells #[.string (uS l)] 9)) :=
    (((Below.refl _ _).alloc (Nat.le_refl _) _).alloc (by simp) _).alloc (by simp; omega) _
  have z9 : w4.heap.size + 1 + 1 < (((w4.alloc (.cells #[.slice A M capv] 43)).alloc (.cells #[.int .i64 0] 3)).alloc (.cells #[.string (uS l)] 9)).heap.size := by simp
  obtain ⟨w5, hw5⟩ : ∃ w5, w5 = (((w4.alloc (.cells #[.slice A M capv] 43)).alloc (.cells #[.int .i64 0] 3)).alloc (.cells #[.string (uS l)] 9)) := ⟨_, rfl⟩
  rw [← hw5] at x6 x7 x8 x9 z9
  simp only [← hw5]
  clear hw5
  refine wpIn_rangeFunc_ownF (n := 4) rfl (by decide) (gf := 31) (lb := #[.pointer (some ⟨w4.heap.size + 1 + 1, 0, none⟩)]) (by rfl) trivial (enters_of Try.func31 (by kernel_rfl) rfl)
    (points_stops (fun x => x) T (4 - 1) (by decide) (w4.heap.size + 1 + 1) l n HL.out hf (by omega) (by rw [HT.out, Hrs.out]; simp) w5 z9 x8.cell) keepAt_t (keepAt_b z9) (Below.refl _ _) (fun _ => rfl)
    (SgI w4 (.slice A M capv) (uS l) T) (fun c pre W => c = .ret ∧ SgX T pre W) (sgI_own w4 _ _ _ _ x9.size) (fun c s W W' row hs _ _ => ⟨hs.1, ⟨hs.2.no⟩⟩)
    ⟨List.nil_prefix, x6, x7, x8, x9⟩
    (fun x => { tmps := #[.slice a n cap, .int .i64 i, undef, undef, .pointer (some ⟨w.heap.size, 0, none⟩), .string (uS l), .pointer (some ⟨w4.heap.size, 0, none⟩), .pointer (some ⟨w4.heap.size + 1, 0, none⟩), .string x, undef, undef, undef, undef, .bool true, .bool false, .slice a n cap, .int .i64 n, .bool false, .slice a n cap, .string (uS l), .string (uS l), .slice a3 n cap3, .slice A M capv, .string (uS l), .func (.func 31) #[] #[.pointer (some ⟨w4.heap.size + 1 + 1, 0, none⟩)], .string x, undef, undef, undef, undef, undef, undef, undef, undef, undef, undef, undef, undef, undef, undef, undef, undef, undef, undef, undef, undef, undef, undef, undef, undef, undef, undef, undef, undef, undef, undef, undef, undef, undef, undef, undef, undef, undef, undef, undef, undef, undef, undef, undef, undef, undef, undef, undef, undef, undef, undef, undef, undef, undef, undef, undef, undef, undef, undef, undef, undef, undef, undef, undef, undef, undef, undef, undef, undef, undef, undef, undef, undef, undef], defers := [] }) ?assign ?body ?done ?stop
  case assign =>
    intro ll x W K hK
    gi_wp2
    exact hK
  case body =>
    rintro ll pre x W hI hlen
    have hKo := hI.old
    obtain ⟨k, hk⟩ : ∃ k, pre.length = k := ⟨_, rfl⟩
    have hct := hI.cnt
    rw [hk] at hct
    have c6 := hI.want.cell
    have c7 := hct.cell
    have f7 := hct.frozen
    have hle : k ≤ M := by
      have := hI.came.length_le
      rw [HT.out, List.length_map, HM.out] at this
      omega
    have h49 : w4.heap.size < W.heap.size := Nat.lt_trans (by omega) hI.str.lt
    have hf4 : W.frozen? ⟨w.heap.size, 0, none⟩ = false := Boxed.frozen (t := 4) (v := .bool false) ((hKo.block _ hsz4).trans r4)
    have hc4 : W.cell? ⟨w.heap.size, 0, none⟩ = some (.bool false) := Boxed.cell (t := 4) (v := .bool false) ((hKo.block _ hsz4).trans r4)
    have hsn := snoc_prefix (x := x) hI.came
    rw [hk] at hsn
    have hk64 : (k : Int) < 100000 := by omega
    by_cases hkM : k = M
    · have hno : ¬ (pre ++ [x] <+: T) := by
        rw [hsn, HT.out, List.getElem?_eq_none (by rw [List.length_map, HM.out]; omega)]
        simp
      have t4 : ((k : Int) == (M : Int)) = true := by rw [beq_iff_eq]; omega
      have Hno := Lib.hid hno
      clear hsn hno hkM
      gi_wp2
      refine ⟨trivial, ?_⟩
      gi_wp2
      exact ⟨KeepsOthers.setCell _ _ _, rfl, ⟨Hno.out⟩⟩
    · have hkl : k < rows.length := by rw [HM.out]; omega
      obtain ⟨r, hr⟩ : ∃ r, rows[k]? = some r := ⟨_, List.getElem?_eq_getElem hkl⟩
      have hmem : r ∈ rows := List.mem_of_getElem? hr
      have hr2 : r.length ≤ 2 := by rcases hok r hmem with ⟨u, rfl⟩ | ⟨u, v, rfl, _⟩ <;> simp
      obtain ⟨g, g', rfl, hcr, hSr⟩ := (hrows.below hKo).at HM.out k r hr hr2
      have hTk : T[k]? = some (uS r) := by rw [HT.out, List.getElem?_map, hr]; rfl
      rw [hTk] at hsn
      have t4 : ((k : Int) == (M : Int)) = false := by rw [beq_eq_false_iff_ne]; omega
      have hkM' : (k : Int) < (M : Int) := by omega
      have hfr := hfit r hmem
      have Hr := Lib.hid hr
      clear hr hTk hkl hmem
      have hd : 1 ≤ 4 - 1 - 1 := by decide
      gi_wp2_with (fail)
      refine ⟨trivial, ?_⟩
      refine (CallsIn.inRound ll (callsIn_wide.2 (str_any _ _ _ r _ hSr hfr (by omega)))).mono ?_
      rintro e W2 ⟨rfl, bq⟩
      have hsz2 := Nat.lt_of_lt_of_le hI.str.lt bq.size
      have d7 : Boxed W2 (w4.heap.size + 1) 3 (.int .i64 (k : Nat)) := (bq.block _ hct.lt).trans hct
      have e7 := d7.cell
      have g7 := d7.frozen
      have e4 : W2.frozen? ⟨w.heap.size, 0, none⟩ = false := Boxed.frozen (t := 4) (v := .bool false) ((bq.block _ (by omega)).trans ((hKo.block _ hsz4).trans r4))
      have e4c : W2.cell? ⟨w.heap.size, 0, none⟩ = some (.bool false) := Boxed.cell (t := 4) (v := .bool false) ((bq.block _ (by omega)).trans ((hKo.block _ hsz4).trans r4))
      by_cases hx : x = uS r
      · subst hx
        have hpx : pre ++ [uS r] <+: T := hsn.2 rfl
        have HP := Lib.hid hpx
        have q1 : ((uS r).toList != (uS r).toList) = false := by simp
        have q2 : ((uS r).toList == (uS r).toList) = true := by simp
        clear hsn hpx
        gi_wp2
        have b7 := d7.set (.int .i64 ((k : Int) + 1))
        refine ⟨(keepsOthers_below bq).trans (KeepsOthers.setCell _ _ _), keepAt_set (keepAt_below bq hI.str.lt) (by omega) _, HP.out, ?_, ?_, ?_, ?_⟩
        · exact (show Boxed W2 _ _ _ from (bq.block _ hI.want.lt).trans hI.want).other (by omega) _
        · rw [List.length_append, hk]; exact b7
        · exact (show Boxed W2 _ _ _ from (bq.block _ hI.str.lt).trans hI.str).other (by omega) _
        · exact (hKo.trans (bq.mono hKo.size)).setCell (p := ⟨w4.heap.size + 1, 0, none⟩) (by simp) _
      · have hno : ¬ (pre ++ [x] <+: T) := by
          rw [hsn]
          intro e
          exact hx (Option.some.inj e).symm
        have Hno := Lib.hid hno
        have hxt : x.toList ≠ (uS r).toList := fun e => hx (str_ext e)
        have q1 : (x.toList != (uS r).toList) = true := by rw [bne_iff_ne]; exact hxt
        have q2 : (x.toList == (uS r).toList) = false := by rw [beq_eq_false_iff_ne]; exact hxt
        clear hsn hno hx
        gi_wp2
        exact ⟨(keepsOthers_below bq).trans (KeepsOthers.setCell _ _ _), rfl, ⟨Hno.out⟩⟩
  case done =>
    rintro D ys W hD rfl hI hK
    have hKo := hI.old
    have c6 := hI.want.cell
    have c7 := hI.cnt.cell
    have hTl : ys.length = M := by rw [HT.out, List.length_map, HM.out]
    rw [hTl] at c7
    have t4 : ((M : Int) == (M : Int)) = true := by simp
    have h49 : w4.heap.size < W.heap.size := Nat.lt_trans (by omega) hI.str.lt
    have rW : Boxed W w.heap.size 4 (.bool false) := (hKo.block _ hsz4).trans r4
    have hB : Below w.heap.size w W := bb4.trans (hKo.mono bb4.size)
    have hDw : w.heap.size ≤ D := by have := x9.size; omega
    have hsz5 : (uS l).size ≤ 9223372036854775807 := by rw [uS_size, HL.out]; omega
    have hlen5 : Hid (n = (uS l).size / 2) := Lib.hid (by rw [uS_size, HL.out]; omega)
    clear hTl x6 x7 x8 z9 r4 hKo
    by_cases hout : i < 0 ∨ (n : Int) ≤ i
    · have f4 := rW.frozen
      have f5 := rW.cell
      have hp := point_out (uS l) i n W hsz5 hlen5 hout
      by_cases h0 : i < 0
      case' pos =>
        have t0 : decide (i < 0) = true := by simp; omega
      case' neg =>
        have t0 : decide (i < 0) = false := by simp; omega
        have t5 : decide ((n : Int) ≤ i) = true := by simp; omega
      all_goals
        clear hout
        gi_wp2_with (fail)
        refine ⟨trivial, ?_⟩
        refine (callsIn_wide.2 hp).mono ?_
        rintro e w' ⟨rfl, rfl⟩
        gi_wp2
        have hK' := (KeepsOthers.setCell W ⟨w.heap.size, 0, none⟩ (.bool true)).same D _ hK rfl
        refine ⟨by simp, .inl ⟨_, _, rfl, run_takeDeferred hK', ?_⟩⟩
        have hc5 := cell_kept (World.cell?_setCell_same' W ⟨w.heap.size, 0, none⟩ (.bool true) (by rw [f5]; rfl)) (grownBy_putObj' _ D (.deferred none)) (fun r e => by cases e; exact ⟨_, hK', rfl⟩)
        refine ⟨.bool true, ?_, rfl, (hB.setCell (p := ⟨w.heap.size, 0, none⟩) (Nat.le_refl _) _).trans (belowK_b (w := w) (Nat.le_refl _) _ D _ _ hDw hK' rfl rfl)⟩
        simp [results, Try.f7, go_sem, hc5]
    · obtain ⟨j, rfl⟩ : ∃ j : Nat, i = j := ⟨i.toNat, by omega⟩
      have hj : j < n := by omega
      have hjl : j < l.length := by rw [HL.out]; exact hj
      have t0 : decide ((j : Int) < 0) = false := by simp
      have t5 : decide ((n : Int) ≤ (j : Int)) = false := by simp; omega
      have hp := point_uS l hf j W hjl (by rw [HL.out]; omega)
      obtain ⟨one, hone⟩ : ∃ one, (l.drop j).take (ptAt l j) = one := ⟨_, rfl⟩
      have hsg := signs_drop l j hjl
      rw [hone] at hsg
      have hSO : SignOK one := signs_ok (l.drop j) one (by rw [hsg]; exact List.mem_cons_self)
      have hFO : Fits one := signs_fits (fun u hu => hf u (List.mem_of_mem_drop hu)) one (by rw [hsg]; exact List.mem_cons_self)
      have hpt := pt_sign l j hjl
      rw [hone] at hpt
      rw [hpt.1, hpt.2] at hp
      obtain ⟨r0, hr0⟩ : ∃ r : Int, ((signR one : Nat) : Int) = r := ⟨_, rfl⟩
      rw [hr0] at hp
      have HSG := Lib.hid hsg
      have HR0 := Lib.hid hr0
      clear hpt hsg hr0 hone hout hjl
      gi_wp2_with (fail)
      refine ⟨trivial, ?_⟩
      refine (callsIn_wide.2 hp).mono ?_
      rintro e w' ⟨rfl, q, rfl⟩
      clear hp
      have hBq := below_drewN hB q
      have rq : Boxed (W.drewN q) w.heap.size 4 (.bool false) := ((below_drewN (Below.refl W.heap.size W) q).block _ rW.lt).trans rW
      have hKq : (W.drewN q).heap[D]? = some (.deferred (some [])) := ((below_drewN (Below.refl W.heap.size W) q).block _ (Array.getElem?_eq_some_iff.1 hK).1).trans hK
      gi_wp2_with (fail)
      refine ⟨trivial, ?_⟩
      refine (callsIn_wide.2 (list_uS l hf _ (by rw [HL.out]; omega))).mono ?_
      rintro e w6 ⟨a6, cap6, rfl, hR6, hB6, b6⟩
      rw [HL.out] at hR6
      have hK6 := (b6.block _ (Array.getElem?_eq_some_iff.1 hKq).1).trans hKq
      have r6 : Boxed w6 w.heap.size 4 (.bool false) := (b6.block _ rq.lt).trans rq
      have hBw6 := hBq.trans (b6.mono hBq.size)
      obtain ⟨i0, hi0, hz0, hz1, hz2⟩ := info_parts infoInt
      have hso := sliceFrom (P := Try.prog) (T := 34) Try.underlying34 (by kernel_rfl) hi0 hz1 a6 n cap6 j (by omega)
      have hRs := hR6.sub j n (by omega) (Nat.le_refl _)
      rw [show (List.take n (ints l)).drop j = ints (l.drop j) by rw [List.take_of_length_le (by rw [ints_length, HL.out]; omega)]; simp [ints, List.map_drop]] at hRs
      have hRl : (l.drop j).length = n - j := by rw [List.length_drop, HL.out]
      have HRl := Lib.hid hRl
      clear hRl hKq rq hBq hR6 hB6 b6 hi0 hz0 hz1 hz2
      rw [HL.out]
      gi_wp2_with (fail)
      refine ⟨trivial, ?_⟩
      refine (callsIn_wide.2 (refSigns_any _ _ _ (l.drop j) _ hRs (fun u hu => hf u (List.mem_of_mem_drop hu)) (by omega))).mono ?_
      rintro e w7 ⟨v7, rfl, hrw7, b7⟩
      have hK7 := (b7.block _ (Array.getElem?_eq_some_iff.1 hK6).1).trans hK6
      have r7 : Boxed w7 w.heap.size 4 (.bool false) := (b7.block _ r6.lt).trans r6
      have hBw7 := hBw6.trans (b7.mono hBw6.size)
      clear hK6 r6 hBw6 b7 hso hRs
      rw [HSG.out] at hrw7
      obtain ⟨A7, cap7, rfl⟩ := hrw7.shape
      have h2 : one.length ≤ 2 := by rcases hSO with ⟨u, rfl⟩ | ⟨u, v, rfl, _⟩ <;> simp
      obtain ⟨g7, g7', rfl, hc7, hS7⟩ := hrw7.at rfl 0 one rfl h2
      obtain ⟨M7, hM7⟩ : ∃ m, (one :: signs (l.drop (j + ptAt l j))).length = m := ⟨_, rfl⟩
      have hM0 : 0 < M7 := by rw [← hM7]; simp
      rw [hM7] at hrw7 ⊢
      have HM7 := Lib.hid hM7
      clear hM7 hrw7
      obtain ⟨_, _, _, _, h4⟩ := hS7
      have f7 := r7.frozen
      have f8 := r7.cell
      have hFO2 := hFO
      rcases hSO with ⟨u, rfl⟩ | ⟨u, v, rfl, hpp⟩
      case inl =>
        obtain ⟨b, off, hbo, hbl, hcell⟩ := h4 (by simp)
        obtain ⟨rfl, rfl⟩ : b = g7' ∧ off = 0 := by simpa using hbo.symm
        have e0 := hcell 0 (by simp)
        obtain ⟨U, hU⟩ : ∃ U, (u : Int) = U := ⟨_, rfl⟩
        have hr0 : r0 = U := by rw [← HR0.out, ← hU]; rfl
        have hUb : U < 65536 := by rw [← hU]; have := hFO u (by simp); omega
        have hU0 : 0 ≤ U := by omega
        subst hr0
        simp only [ints, List.map_cons, List.getD_cons_zero, Nat.add_zero, Int.ofNat_eq_natCast, hU, List.length_cons, List.length_nil, Nat.zero_add] at e0 hc7
        simp only [List.length_cons, List.length_nil, Nat.zero_add]
        have x3 : IntKind.i64.wrap r0 = r0 := IntWalk.i64_in _ (by omega)
        clear hcell h4 hbo hU
        gi_wp2
        have hK' := (KeepsOthers.setCell w7 ⟨w.heap.size, 0, none⟩ (.bool true)).same D _ hK7 rfl
        refine ⟨by simp, .inl ⟨_, _, rfl, run_takeDeferred hK', ?_⟩⟩
        have hc5 := cell_kept (World.cell?_setCell_same' w7 ⟨w.heap.size, 0, none⟩ (.bool true) (by rw [f8]; rfl)) (grownBy_putObj' _ D (.deferred none)) (fun r e => by cases e; exact ⟨_, hK', rfl⟩)
        refine ⟨.bool true, ?_, rfl, (hBw7.setCell (p := ⟨w.heap.size, 0, none⟩) (Nat.le_refl _) _).trans (belowK_b (w := w) (Nat.le_refl _) _ D _ _ hDw hK' rfl rfl)⟩
        simp [results, Try.f7, go_sem, hc5]
      case inr =>
        have hpb := (ptB_iff u v).1 hpp
        obtain ⟨b, off, hbo, hbl, hcell⟩ := h4 (by simp)
        obtain ⟨rfl, rfl⟩ : b = g7' ∧ off = 0 := by simpa using hbo.symm
        have e0 := hcell 0 (by simp)
        have e1 := hcell 1 (by simp)
        obtain ⟨U, hU⟩ : ∃ U, (u : Int) = U := ⟨_, rfl⟩
        obtain ⟨V, hV⟩ : ∃ V, (v : Int) = V := ⟨_, rfl⟩
        have hr0 : r0 = 65536 + (U - 55296) * 1024 + V - 56320 := by rw [← HR0.out, ← hU, ← hV]; simp only [signR]; omega
        have HR1 := Lib.hid hr0
        simp only [ints, List.map_cons, List.getD_cons_zero, List.getD_cons_succ, Nat.add_zero, Int.ofNat_eq_natCast, hU, hV, List.length_cons, List.length_nil, Nat.zero_add, Nat.reduceAdd] at e0 e1 hc7
        simp only [List.length_cons, List.length_nil, Nat.zero_add, Nat.reduceAdd]
        have u0 : 55296 ≤ U := by omega
        have u1 : U ≤ 56319 := by omega
        have v0 : 56320 ≤ V := by omega
        have v1 : V ≤ 57343 := by omega
        have x3 : IntKind.i64.wrap r0 = r0 := IntWalk.i64_in _ (by rw [hr0]; omega)
        have y1 : IntKind.i64.wrap (U - 55296) = U - 55296 := IntWalk.i64_in _ (by omega)
        have y2 : IntKind.i64.wrap ((U - 55296) * 1024) = (U - 55296) * 1024 := IntWalk.i64_in _ (by omega)
        have y3 : IntKind.i64.wrap (65536 + (U - 55296) * 1024) = 65536 + (U - 55296) * 1024 := IntWalk.i64_in _ (by omega)
        have y4 : IntKind.i64.wrap (65536 + (U - 55296) * 1024 + V) = 65536 + (U - 55296) * 1024 + V := IntWalk.i64_in _ (by omega)
        have y5 : IntKind.i64.wrap (65536 + (U - 55296) * 1024 + V - 56320) = 65536 + (U - 55296) * 1024 + V - 56320 := IntWalk.i64_in _ (by omega)
        clear hcell h4 hbo hU hV hpb hr0
        have hmx : Try.prog.follows .mixedOrders = true := by kernel_rfl
        gi_wp2
        gi_region
        all_goals gi_wp2
        have hK' := (KeepsOthers.setCell w7 ⟨w.heap.size, 0, none⟩ (.bool true)).same D _ hK7 rfl
        have hK9 : (w7.setCell ⟨w.heap.size, 0, none⟩ (.bool true)).drew.heap[D]? = some (.deferred (some [])) := hK'
        refine ⟨by simp, .inl ⟨_, _, rfl, run_takeDeferred hK9, ?_⟩⟩
        have hc5 := cell_kept (show (w7.setCell ⟨w.heap.size, 0, none⟩ (.bool true)).drew.cell? ⟨w.heap.size, 0, none⟩ = some (.bool true) from World.cell?_setCell_same' w7 ⟨w.heap.size, 0, none⟩ (.bool true) (by rw [f8]; rfl)) (grownBy_putObj' _ D (.deferred none)) (fun r e => by cases e; exact ⟨_, hK9, rfl⟩)
        refine ⟨.bool true, ?_, rfl, (hBw7.setCell (p := ⟨w.heap.size, 0, none⟩) (Nat.le_refl _) _).drew.trans (belowK_b (w := w) (Nat.le_refl _) _ D _ _ hDw hK9 rfl rfl)⟩
        simp [results, Try.f7, go_sem, hc5]
  case stop =>
    rintro D c pre W hD hpre ⟨_, hX⟩ hK
    exact absurd hpre hX.no

theorem signs_walk (a : Option Addr) (n cap : Nat) (z : List Int) (i : Int) (w : World) (h : IsRow .u16 w a n cap z) (wi : (Lit.int .i64 i).wf = true) :
    Calls Try.prog 7 #[.slice a n cap, .int .i64 i] w fun e w' => e = .returned (.bool true) ∧ Below w.heap.size w w' := by
  obtain ⟨l, hR, hf, hl⟩ := units_in h
  by_cases h1 : n ≤ 3000
  · exact signs_short a n cap i w l hR hl hf h1 wi
  · have t1 : decide ((3000 : Int) < (n : Int)) = true := by simp; omega
    have hn : n ≤ 9223372036854775807 := by have := hR.2.1; have := hR.2.2.1; unfold maxLen at this; omega
    clear hl hR h
    go_enter Try.func7, Try.ntmps7
    go_wp2_with fail
    refine (fit_any _).mono ?_
    rintro e w1 ⟨rfl, b1⟩
    have r1 : Boxed w1 w.heap.size 4 (.bool false) := (b1.block _ (by simp)).trans (Boxed.new w _ _)
    have f1 := r1.frozen
    have f2 := r1.cell
    have bb1 : Below w.heap.size w w1 := ((Below.refl _ _).alloc (Nat.le_refl _) _).trans (b1.mono (by simp))
    clear b1
    go_wp2
    have hc5 := World.cell?_setCell_same' w1 ⟨w.heap.size, 0, none⟩ (.bool true) (by rw [f2]; rfl)
    exact bodyPost_ret (v := .bool true) (by simp [results, Try.f7, go_sem, hc5]) rfl ⟨rfl, bb1.setCell (p := ⟨w.heap.size, 0, none⟩) (Nat.le_refl _) _⟩
end Go.Proofs.Ytnkddcebhffidaa
