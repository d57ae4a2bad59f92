/- TxtE: several texts in one. -/
import Derived.Test.YtdeboajjhpecbaaGreatDoorTxtG
import Derived.Lib.MapLaws
import Derived.Test.YtdeboajjhpecbaaGreatDoorTxtM
import Derived.Test.YtdeboajjhpecbaaGreatDoorTxt
import Derived.Test.YtdeboajjhpecbaaGreatDoorShelf
import Derived.BigRegion
import Derived.ChangeAlike
/- A text of Go: the plain part. -/
set_option linter.unusedVariables false
set_option linter.unusedSimpArgs false
namespace Go.Proofs.YtdeboajjhpecbaaGreatDoor.Tx
open Go.RowKit

def hexS : ByteArray := ⟨#[48, 49, 50, 51, 52, 53, 54, 55, 56, 57, 65, 66, 67, 68, 69, 70]⟩
def hx (d : Nat) : UInt8 := hexS.data.toList.getD d 0
def hexB (c : Nat) : List UInt8 := [hx (c / 4096 % 16), hx (c / 256 % 16), hx (c / 16 % 16), hx (c % 16)]
/-- What is told by its number. -/
def escB (c : Nat) : Bool := decide (c < 32 ∨ c = 127 ∨ (55296 ≤ c ∧ c ≤ 57343))
def goPiece (c : Nat) : List UInt8 := if c = 92 then [92, 92] else if escB c then 92 :: 117 :: hexB c else Lib.encodeRune (c : Int)
def goB (rows : List (List Nat)) : List UInt8 := rows.flatMap fun x => goPiece (signR x)
theorem goB_snoc (rows : List (List Nat)) (x : List Nat) : goB (rows ++ [x]) = goB rows ++ goPiece (signR x) := by simp [goB]
theorem goPiece_length (c : Nat) : (goPiece c).length ≤ 6 := by
  unfold goPiece
  split
  · simp
  · split
    · simp [hexB]
    · have := (Lib.encodeRuneZ_length (c : Int)).2
      rw [Lib.encodeRune, List.length_map]; omega
theorem goB_length (rows : List (List Nat)) : (goB rows).length ≤ 6 * rows.length := by
  induction rows with
  | nil => simp [goB]
  | cons x r ih =>
    have := goPiece_length (signR x)
    simp only [goB, List.flatMap_cons, List.length_append, List.length_cons] at ih ⊢
    omega

theorem signR_max {x : List Nat} (h : SignOK x) (hf : Fits x) : signR x ≤ 1114111 := by
  rcases h with ⟨u, rfl⟩ | ⟨u, v, rfl, hp⟩
  · have := hf u (by simp); simp only [signR]; omega
  · have := (ptB_iff u v).1 hp; simp only [signR]; omega
/-- A pair's number is no half and no small sign. -/
theorem signR_pair {u v : Nat} (h : ptB u v = true) : 65536 ≤ signR [u, v] := by
  have := (ptB_iff u v).1 h; simp only [signR]; omega

/-! ### Back -/
theorem decode_nosur (s : ByteArray) (pos : Nat) : ¬ (55296 ≤ (Utf8.decode s pos).1 ∧ (Utf8.decode s pos).1 ≤ 57343) := by
  have hv : ∀ c : Nat, Utf8.valid c = true → ¬ (55296 ≤ c ∧ c ≤ 57343) := fun c h => by simp [Utf8.valid] at h; omega
  unfold Utf8.decode
  dsimp only
  have h0 := UInt8.toNat_lt (s.get! (pos + 0))
  split
  · dsimp only; omega
  split
  · split
    · dsimp only; omega
    · exact (by decide)
  split
  · split
    · rename_i h; exact hv _ (Bool.and_eq_true_iff.1 h).2
    · exact (by decide)
  split
  · split
    · rename_i h; exact hv _ (Bool.and_eq_true_iff.1 h).2
    · exact (by decide)
  · exact (by decide)

def plainR (r : Nat) : Prop := 32 ≤ r ∧ r ≠ 127 ∧ r ≠ 92 ∧ r ≠ 65533
def PlainF (s : ByteArray) : Nat → Nat → Prop
  | 0, _ => True
  | f + 1, pos => pos < s.size → plainR (Utf8.decode s pos).1 ∧ PlainF s f (pos + (Utf8.decode s pos).2)
theorem plainF_end (s : ByteArray) (f pos : Nat) (h : ¬ pos < s.size) : PlainF s f pos := by
  cases f with
  | zero => trivial
  | succ f => exact fun h' => absurd h' h

theorem signs_rune (r : Nat) (l : List Nat) (h : ¬ (55296 ≤ r ∧ r ≤ 57343)) (hm : r ≤ 1114111) : signs (runeUnits r ++ l) = runeUnits r :: signs l ∧ signR (runeUnits r) = r := by
  unfold runeUnits
  by_cases hr : r < 65536
  · rw [if_pos hr]
    refine ⟨?_, rfl⟩
    have hp : ∀ v, ptB r v = false := fun v => by rw [Bool.eq_false_iff, ne_eq, ptB_iff]; omega
    cases l with
    | nil => simp [signs]
    | cons v l => simp [signs, hp]
  · rw [if_neg hr]
    have hp : ptB (55296 + (r - 65536) / 1024) (56320 + (r - 65536) % 1024) = true := by rw [ptB_iff]; omega
    refine ⟨?_, ?_⟩
    · show signs (_ :: _ :: l) = _
      rw [signs, if_pos hp]
    · simp only [signR]; omega

theorem goPiece_plain (r : Nat) (h : plainR r) (h2 : ¬ (55296 ≤ r ∧ r ≤ 57343)) : goPiece r = Lib.encodeRune (r : Int) := by
  have he : escB r = false := by rw [escB, decide_eq_false]; unfold plainR at h; omega
  rw [goPiece, if_neg h.2.2.1, he]; rfl

theorem go_back (s : ByteArray) (f pos : Nat) (hf : s.size ≤ pos + f) (h : PlainF s f pos) : goB (signs (decUnits s f pos)) = s.data.toList.drop pos := by
  induction f generalizing pos with
  | zero => rw [decUnits]; simp only [signs, goB, List.flatMap_nil]; rw [List.drop_of_length_le (by simpa using hf)]
  | succ f ih =>
    by_cases hp : pos < s.size
    · obtain ⟨h1, h2⟩ := h hp
      have hw := width_pos s pos hp
      rw [decUnits, if_pos hp]
      have hsr := signs_rune (Utf8.decode s pos).1 (decUnits s f (pos + (Utf8.decode s pos).2)) (decode_nosur s pos) (decode_max s pos)
      rw [hsr.1]
      have ih' := ih (pos + (Utf8.decode s pos).2) (by omega) h2
      simp only [goB, List.flatMap_cons] at ih' ⊢
      rw [ih', hsr.2, goPiece_plain _ h1 (decode_nosur s pos), ← Lib.decodeL_drop]
      have hne : s.data.toList.drop pos ≠ [] := by
        intro e
        have := congrArg List.length e
        rw [List.length_drop] at this
        have h3 : s.data.toList.length = s.size := by simp
        simp at this; omega
      rw [Lib.encode_decode _ hne (fun e => by rw [Lib.decodeL_drop] at e; exact h1.2.2.2 e.1), ← List.drop_drop, List.take_append_drop]
    · rw [decUnits_end s _ pos hp]; simp only [signs, goB, List.flatMap_nil]; rw [List.drop_of_length_le (by simpa using hp)]

end Go.Proofs.YtdeboajjhpecbaaGreatDoor.Tx

/- Contracts of the reference's hex and Go. -/
set_option linter.unusedVariables false
set_option linter.unusedSimpArgs false
namespace Go.Proofs.YtdeboajjhpecbaaGreatDoor.Tx
open Go.RowKit

theorem conv_four (w : World) (a b c d : UInt8) : (convert 107 9 (.slice (some ⟨w.heap.size, 0, none⟩) 4 4)).run Tryz.prog (w.alloc (.cells #[.int .u8 (a.toNat : Int), .int .u8 (b.toNat : Int), .int .u8 (c.toNat : Int), .int .u8 (d.toNat : Int)] 5)).drew = .ok (.string ⟨#[a, b, c, d]⟩) (w.alloc (.cells #[.int .u8 (a.toNat : Int), .int .u8 (b.toNat : Int), .int .u8 (c.toNat : Int), .int .u8 (d.toNat : Int)] 5)).drew := by
  have hh := heap_alloc_new w (.cells #[.int .u8 (a.toNat : Int), .int .u8 (b.toNat : Int), .int .u8 (c.toNat : Int), .int .u8 (d.toNat : Int)] 5)
  have hc : ∀ i, i < 4 → (w.alloc (.cells #[.int .u8 (a.toNat : Int), .int .u8 (b.toNat : Int), .int .u8 (c.toNat : Int), .int .u8 (d.toNat : Int)] 5)).drew.cell? ⟨w.heap.size, 0 + i, none⟩ = some (.int .u8 ([(a.toNat : Int), b.toNat, c.toNat, d.toNat].getD i 0)) := by
    intro i hi
    have h2 : (w.alloc (.cells #[.int .u8 (a.toNat : Int), .int .u8 (b.toNat : Int), .int .u8 (c.toNat : Int), .int .u8 (d.toNat : Int)] 5)).drew.heap[w.heap.size]? = _ := hh
    rw [Lib.cell_of_heap h2]
    match i, hi with
    | 0, _ => rfl
    | 1, _ => rfl
    | 2, _ => rfl
    | 3, _ => rfl
  rw [run_convert_bytes_arg _ 107 5 Tryz.underlying107 Tryz.underlying5 w.heap.size 0 4 4 [(a.toNat : Int), b.toNat, c.toNat, d.toNat] rfl hc 9 Tryz.underlying9]
  have he : ∀ x : UInt8, UInt8.ofNat ((x.toNat : Int)).toNat = x := fun x => by simp
  simp [strOfNums, he]

theorem conv_four' (w : World) (a b c d : UInt8) : (convert 107 9 (.slice (some ⟨w.heap.size, 0, none⟩) 4 4)).run Tryz.prog (w.alloc (.cells #[.int .u8 (a.toNat : Int), .int .u8 (b.toNat : Int), .int .u8 (c.toNat : Int), .int .u8 (d.toNat : Int)] 5)) = .ok (.string ⟨#[a, b, c, d]⟩) (w.alloc (.cells #[.int .u8 (a.toNat : Int), .int .u8 (b.toNat : Int), .int .u8 (c.toNat : Int), .int .u8 (d.toNat : Int)] 5)) := by
  have hh := heap_alloc_new w (.cells #[.int .u8 (a.toNat : Int), .int .u8 (b.toNat : Int), .int .u8 (c.toNat : Int), .int .u8 (d.toNat : Int)] 5)
  have hc : ∀ i, i < 4 → (w.alloc (.cells #[.int .u8 (a.toNat : Int), .int .u8 (b.toNat : Int), .int .u8 (c.toNat : Int), .int .u8 (d.toNat : Int)] 5)).cell? ⟨w.heap.size, 0 + i, none⟩ = some (.int .u8 ([(a.toNat : Int), b.toNat, c.toNat, d.toNat].getD i 0)) := by
    intro i hi
    have h2 : (w.alloc (.cells #[.int .u8 (a.toNat : Int), .int .u8 (b.toNat : Int), .int .u8 (c.toNat : Int), .int .u8 (d.toNat : Int)] 5)).heap[w.heap.size]? = _ := hh
    rw [Lib.cell_of_heap h2]
    match i, hi with
    | 0, _ => rfl
    | 1, _ => rfl
    | 2, _ => rfl
    | 3, _ => rfl
  rw [run_convert_bytes_arg _ 107 5 Tryz.underlying107 Tryz.underlying5 w.heap.size 0 4 4 [(a.toNat : Int), b.toNat, c.toNat, d.toNat] rfl hc 9 Tryz.underlying9]
  have he : ∀ x : UInt8, UInt8.ofNat ((x.toNat : Int)).toNat = x := fun x => by simp
  simp [strOfNums, he]

theorem hex_at (n : Nat) (h : n < (⟨#[48, 49, 50, 51, 52, 53, 54, 55, 56, 57, 65, 66, 67, 68, 69, 70]⟩ : ByteArray).size) : (⟨#[48, 49, 50, 51, 52, 53, 54, 55, 56, 57, 65, 66, 67, 68, 69, 70]⟩ : ByteArray)[n] = hx n := getD_byte _ n h

set_option maxHeartbeats 4000000 in
set_option maxRecDepth 100000 in
theorem refHex_any (c : Int) (w : World) (h0 : 0 ≤ c) (h1 : c ≤ 65535) :
    Calls Tryz.prog 54 #[.int .i64 c] w fun e w' => e = .returned (.string ⟨(hexB c.toNat).toArray⟩) ∧ Below w.heap.size w w' := by
  have x1 : c.tdiv 4096 = c / 4096 := Int.tdiv_eq_ediv_of_nonneg h0
  have x2 : c.tdiv 256 = c / 256 := Int.tdiv_eq_ediv_of_nonneg h0
  have x3 : c.tdiv 16 = c / 16 := Int.tdiv_eq_ediv_of_nonneg h0
  have y0 : c.tmod 16 = c % 16 := Int.tmod_eq_emod_of_nonneg h0
  have y1 : (c / 4096).tmod 16 = c / 4096 % 16 := Int.tmod_eq_emod_of_nonneg (by omega)
  have y2 : (c / 256).tmod 16 = c / 256 % 16 := Int.tmod_eq_emod_of_nonneg (by omega)
  have y3 : (c / 16).tmod 16 = c / 16 % 16 := Int.tmod_eq_emod_of_nonneg (by omega)
  have z0 : IntKind.i64.wrap (c % 16) = c % 16 := IntWalk.i64_in _ (by omega)
  have z1 : IntKind.i64.wrap (c / 4096 % 16) = c / 4096 % 16 := IntWalk.i64_in _ (by omega)
  have z2 : IntKind.i64.wrap (c / 256 % 16) = c / 256 % 16 := IntWalk.i64_in _ (by omega)
  have z3 : IntKind.i64.wrap (c / 16 % 16) = c / 16 % 16 := IntWalk.i64_in _ (by omega)
  have z4 : IntKind.i64.wrap (c / 4096) = c / 4096 := IntWalk.i64_in _ (by omega)
  have z5 : IntKind.i64.wrap (c / 256) = c / 256 := IntWalk.i64_in _ (by omega)
  have z6 : IntKind.i64.wrap (c / 16) = c / 16 := IntWalk.i64_in _ (by omega)
  have p0 : 0 ≤ c % 16 := by omega
  have q0 : c % 16 < 16 := by omega
  have p1 : 0 ≤ c / 4096 % 16 := by omega
  have q1 : c / 4096 % 16 < 16 := by omega
  have p2 : 0 ≤ c / 256 % 16 := by omega
  have q2 : c / 256 % 16 < 16 := by omega
  have p3 : 0 ≤ c / 16 % 16 := by omega
  have q3 : c / 16 % 16 < 16 := by omega
  have hcv := conv_four w
  have hcv2 := conv_four' w
  go_enter Tryz.func54, Tryz.ntmps54
  go_wp2
  go_region
  all_goals
    go_wp2
    go_ret
    refine ⟨?_, ((Below.refl _ _).alloc (Nat.le_refl _) _).drew⟩
    simp only [hexB, hex_at]
    rw [show (c / 4096 % 16).toNat = c.toNat / 4096 % 16 by omega, show (c / 256 % 16).toNat = c.toNat / 256 % 16 by omega, show (c / 16 % 16).toNat = c.toNat / 16 % 16 by omega, show (c % 16).toNat = c.toNat % 16 by omega]
    rfl

/-- What the reference adds at a sign. -/
theorem goPiece_bs : goPiece 92 = [92, 92] := rfl
theorem goPiece_esc (c : Nat) (h : c ≠ 92) (he : escB c = true) : goPiece c = 92 :: 117 :: hexB c := by rw [goPiece, if_neg h, if_pos he]
theorem goPiece_enc (c : Nat) (h : c ≠ 92) (he : escB c = false) : goPiece c = Lib.encodeRune (c : Int) := by rw [goPiece, if_neg h, he]; rfl

theorem appendRune_nil (r : Int) (hr0 : 0 ≤ r) (hr1 : r ≤ 1114111) (w : World) :
    Calls Tryz.prog 55 #[.slice none 0 0, .int .i32 r] w fun e w' => ∃ v, e = .returned v ∧ w'.ownsRow w.heap.size 5 1 v (Lib.encodeRune r).length (Lib.byteCells (Lib.encodeRune r)) ∧ Below w.heap.size w w' := by
  refine (Tryz.utf8_AppendRune_plain w.heap.size (.slice none 0 0) 0 [] r (by omega) (by omega) w (World.ownsRow_nil _ _ _ _) (by omega) (Nat.le_refl _)).mono ?_
  rintro e w' ⟨v, rfl, h1, o, h2⟩
  refine ⟨v, rfl, ?_, ((Below.refl _ _).alloc (Nat.le_refl _) o).grown h2 (by simp) (fun k hk => by simp [Value.ownBlock] at hk)⟩
  rw [Lib.byteCells_encodeRune, ← Lib.runeCells_length]
  simpa using h1

set_option maxHeartbeats 8000000 in
set_option maxRecDepth 100000 in
theorem refGo_any (a : Option Addr) (n cap : Nat) (l : List Nat) (w : World) (h : SliceR .i64 w a n cap (ints l)) (hf : Fits l) (hn : n ≤ 100000) :
    Calls Tryz.prog 33 #[.slice a n cap] w fun e w' => e = .returned (.string ⟨(goB (signs l)).toArray⟩) ∧ Below w.heap.size w w' := by
  have hln : l.length = n := by have := h.1; rwa [ints_length] at this
  go_enter Tryz.func33, Tryz.ntmps33
  go_wp2_with fail
  refine (refSigns_any a n cap l _ h hf hn).mono ?_
  rintro e w4 ⟨v, rfl, hrows, b4⟩
  obtain ⟨A, capv, rfl⟩ := hrows.shape
  obtain ⟨rows, hrs⟩ : ∃ rows, rows = signs l := ⟨_, rfl⟩
  have hok : ∀ x, x ∈ rows → SignOK x := by rw [hrs]; exact signs_ok l
  have hfit : ∀ x, x ∈ rows → Fits x := by rw [hrs]; exact signs_fits hf
  have hMn : rows.length ≤ n := by rw [hrs, ← hln]; exact signs_len l
  rw [← hrs] at hrows ⊢
  obtain ⟨M, hM⟩ : ∃ M, rows.length = M := ⟨_, rfl⟩
  rw [hM] at hrows hMn ⊢
  have HM := Lib.hid hM
  have Hrs := Lib.hid hrs
  clear hrs hM hln h
  go_wp2
  go_loopw [3, 5] (fun out i wr => ∃ k : Nat, k ≤ M ∧ i = .int .i64 k ∧ out = .string ⟨(goB (rows.take k)).toArray⟩ ∧ Below w4.heap.size w4 wr) (fun _ i _ => M - (intOf i).toNat)
  case atStart => exact ⟨0, Nat.zero_le _, rfl, rfl, Below.refl _ _⟩
  case round =>
    obtain ⟨k, hk, rfl, rfl, hb⟩ := hrel
    by_cases hlt : k < M
    · have hkl : k < rows.length := by rw [HM.out]; exact hlt
      obtain ⟨r, hr⟩ : ∃ r, rows[k]? = some r := ⟨_, List.getElem?_eq_getElem hkl⟩
      have hmem : r ∈ rows := List.mem_of_getElem? hr
      have hSO := hok r hmem
      have hr2 : r.length ≤ 2 := by rcases hSO with ⟨u, rfl⟩ | ⟨u, v, rfl, _⟩ <;> simp
      obtain ⟨g, g', rfl, hcr, hSr⟩ := (hrows.below hb).at HM.out k r hr hr2
      have hfr := hfit r hmem
      have hmx := signR_max hSO hfr
      have hts : goB (rows.take (k + 1)) = goB (rows.take k) ++ goPiece (signR r) := by
        rw [← goB_snoc, List.take_succ_eq_append_getElem hkl]
        rw [List.getElem?_eq_getElem hkl] at hr
        rw [Option.some.inj hr]
      have HTS := Lib.hid hts
      have hk1 : (k : Int) < (M : Int) := by omega
      clear hr hts hkl hmem hrows hok hfit
      obtain ⟨_, _, _, _, h4⟩ := hSr
      have hal := goB_length (rows.take k)
      have htl : (rows.take k).length ≤ k := List.length_take_le _ _
      obtain ⟨acc, hacc⟩ : ∃ acc, goB (rows.take k) = acc := ⟨_, rfl⟩
      rw [hacc] at HTS hal ⊢
      have s4 : ¬ 9223372036854775807 < acc.length + 2 := by omega
      clear hacc
      rcases hSO with ⟨u, rfl⟩ | ⟨u, v, rfl, hpp⟩
      case' inl =>
        obtain ⟨b, off, hbo, hbl, hcell⟩ := h4 (by simp)
        obtain ⟨rfl, rfl⟩ : b = g' ∧ off = 0 := by simpa using hbo.symm
        have e0 := hcell 0 (by simp)
        obtain ⟨U, hU⟩ : ∃ U, (u : Int) = U := ⟨_, rfl⟩
        have hUb : U ≤ 65535 := by rw [← hU]; have := hfr u (by simp); omega
        have hU0 : 0 ≤ U := by omega
        simp only [ints, List.map_cons, List.getD_cons_zero, Nat.add_zero, Int.ofNat_eq_natCast, hU, List.length_cons, List.length_nil, Nat.zero_add] at e0 hcr
        have hsr : signR [u] = u := rfl
        rw [hsr] at HTS
        clear hcell h4 hbo hfr hmx hsr
        have s1 : ¬ 9223372036854775807 < acc.length + (Lib.encodeRune U).length := by
          have := (Lib.encodeRuneZ_length U).2
          rw [Lib.encodeRune, List.length_map]; omega
        have s2 : ¬ 9223372036854775807 < 2 + (hexB U.toNat).length := by simp [hexB]
        have s3 : ¬ 9223372036854775807 < acc.length + (2 + (hexB U.toNat).length) := by simp only [hexB, List.length_cons, List.length_nil]; omega
        clear hal htl
        by_cases c1 : U = 92
        case' pos =>
          obtain ⟨pc, hpc⟩ : ∃ pc, goPiece u = pc := ⟨_, rfl⟩
          have hp1 : pc = [92, 92] := by rw [← hpc, show u = 92 by omega]; rfl
          rw [hpc, hp1] at HTS
          subst c1
          clear hpc hp1 hU
        case' neg =>
          have t1 : (U == 92) = false := by rw [beq_eq_false_iff_ne]; exact c1
          by_cases c2 : U < 32
          case' pos =>
            have t2 : decide (U < 32) = true := by simp; omega
            have hp : goPiece u = 92 :: 117 :: hexB U.toNat := by rw [goPiece_esc u (by omega) (by rw [escB, decide_eq_true]; omega), show U.toNat = u by omega]
            rw [hp] at HTS
            clear hp hU
          case' neg =>
            have t2 : decide (U < 32) = false := by simp; omega
            by_cases c3 : U = 127
            case' pos =>
              have hp : goPiece u = 92 :: 117 :: hexB U.toNat := by rw [goPiece_esc u (by omega) (by rw [escB, decide_eq_true]; omega), show U.toNat = u by omega]
              rw [hp] at HTS
              have t3 : (U == 127) = true := by rw [beq_iff_eq]; exact c3
              have C3 := Lib.hid c3
              clear hp hU c3
            case' neg =>
              have t3 : (U == 127) = false := by rw [beq_eq_false_iff_ne]; exact c3
              by_cases c4 : 55296 ≤ U
              case' neg =>
                have t4 : decide (55296 ≤ U) = false := by simp; omega
                have hp : goPiece u = Lib.encodeRune U := by rw [goPiece_enc u (by omega) (by rw [escB, decide_eq_false]; omega), hU]
                rw [hp] at HTS
                clear hp hU
              case' pos =>
                have t4 : decide (55296 ≤ U) = true := by simp; omega
                by_cases c5 : U ≤ 57343
                case' pos =>
                  have t5 : decide (U ≤ 57343) = true := by simp; omega
                  have hp : goPiece u = 92 :: 117 :: hexB U.toNat := by rw [goPiece_esc u (by omega) (by rw [escB, decide_eq_true]; omega), show U.toNat = u by omega]
                  rw [hp] at HTS
                  clear hp hU
                case' neg =>
                  have t5 : decide (U ≤ 57343) = false := by simp; omega
                  have hp : goPiece u = Lib.encodeRune U := by rw [goPiece_enc u (by omega) (by rw [escB, decide_eq_false]; omega), hU]
                  rw [hp] at HTS
                  clear hp hU
        all_goals
          go_wp2_with (first
            | (go_at_call 54; refine (refHex_any U _ hU0 hUb).mono ?_; rintro e w' ⟨rfl, b7⟩)
            | (go_at_call 55; refine (appendRune_nil U hU0 (by omega) _).mono ?_; rintro e w' ⟨v7, rfl, hown7, b7⟩; have hcv7 := conv_own _ _ _ _ _ hown7))
          go_roundw
          case rel =>
            refine ⟨k + 1, by omega, by go_num, ?_, by first | exact hb | exact hb.trans (b7.mono hb.size)⟩
            rw [HTS.out]
            first
              | exact congrArg Value.string (app_s _ _)
              | exact congrArg Value.string ((congrArg (fun t => (⟨acc.toArray⟩ : ByteArray) ++ t) (app_s [92, 117] _)).trans (app_s _ _))
          case measure => simp [intOf]; omega
      case inr =>
        have hpb := (ptB_iff u v).1 hpp
        obtain ⟨b, off, hbo, hbl, hcell⟩ := h4 (by simp)
        obtain ⟨rfl, rfl⟩ : b = g' ∧ off = 0 := by simpa using hbo.symm
        have e0 := hcell 0 (by simp)
        have e1 := hcell 1 (by simp)
        obtain ⟨U, hU⟩ : ∃ U, (u : Int) = U := ⟨_, rfl⟩
        obtain ⟨V, hV⟩ : ∃ V, (v : Int) = V := ⟨_, rfl⟩
        simp only [ints, List.map_cons, List.getD_cons_zero, List.getD_cons_succ, Nat.add_zero, Int.ofNat_eq_natCast, hU, hV, List.length_cons, List.length_nil, Nat.zero_add, Nat.reduceAdd] at e0 e1 hcr
        have hsr : ((signR [u, v] : Nat) : Int) = 65536 + (U - 55296) * 1024 + V - 56320 := by rw [← hU, ← hV]; simp only [signR]; omega
        have hp : goPiece (signR [u, v]) = Lib.encodeRune (65536 + (U - 55296) * 1024 + V - 56320) := by
          have := signR_pair hpp
          rw [goPiece_enc _ (by omega) (by rw [escB, decide_eq_false]; omega), hsr]
        rw [hp] at HTS
        have u0 : 55296 ≤ U := by omega
        have u1 : U ≤ 56319 := by omega
        have v0 : 56320 ≤ V := by omega
        have v1 : V ≤ 57343 := by omega
        have s1 : ¬ 9223372036854775807 < acc.length + (Lib.encodeRune (65536 + (U - 55296) * 1024 + V - 56320)).length := by
          have := (Lib.encodeRuneZ_length (65536 + (U - 55296) * 1024 + V - 56320)).2
          rw [Lib.encodeRune, List.length_map]; omega
        have w0 : (65536 + (U - 55296) * 1024 + V - 56320 == 92) = false := by rw [beq_eq_false_iff_ne]; omega
        have w1 : decide (65536 + (U - 55296) * 1024 + V - 56320 < 32) = false := by simp; omega
        have w2 : (65536 + (U - 55296) * 1024 + V - 56320 == 127) = false := by rw [beq_eq_false_iff_ne]; omega
        have w3 : decide (55296 ≤ 65536 + (U - 55296) * 1024 + V - 56320) = true := by simp; omega
        have w4' : decide (65536 + (U - 55296) * 1024 + V - 56320 ≤ 57343) = false := by simp; omega
        have y1 : IntKind.i64.wrap (U - 55296) = U - 55296 := IntWalk.i64_in _ (by omega)
        have y2 : IntKind.i64.wrap ((U - 55296) * 1024) = (U - 55296) * 1024 := IntWalk.i64_in _ (by omega)
        have y3 : IntKind.i64.wrap (65536 + (U - 55296) * 1024) = 65536 + (U - 55296) * 1024 := IntWalk.i64_in _ (by omega)
        have y4 : IntKind.i64.wrap (65536 + (U - 55296) * 1024 + V) = 65536 + (U - 55296) * 1024 + V := IntWalk.i64_in _ (by omega)
        have y5 : IntKind.i64.wrap (65536 + (U - 55296) * 1024 + V - 56320) = 65536 + (U - 55296) * 1024 + V - 56320 := IntWalk.i64_in _ (by omega)
        have hr0 : 0 ≤ 65536 + (U - 55296) * 1024 + V - 56320 := by omega
        have hr1 : 65536 + (U - 55296) * 1024 + V - 56320 ≤ 1114111 := by omega
        clear hcell h4 hbo hU hV hpb hp hsr hal htl hfr hmx hpp
        go_wp2
        go_region
        all_goals
          go_wp2_with (go_at_call 55; refine (appendRune_nil _ hr0 hr1 _).mono ?_; rintro e w' ⟨v7, rfl, hown7, b7⟩; have hcv7 := conv_own _ _ _ _ _ hown7)
          go_roundw
          case rel =>
            refine ⟨k + 1, by omega, by go_num, ?_, hb.drew.trans (b7.mono hb.size)⟩
            rw [HTS.out]
            exact congrArg Value.string (app_s _ _)
          case measure => simp [intOf]; omega
    · have hk2 : k = M := by omega
      have t1 : decide ((k : Int) < (M : Int)) = false := by simp; omega
      have Hk := Lib.hid hk2
      clear hk2
      go_wp2
      go_ret
      refine ⟨?_, b4.trans (hb.mono b4.size)⟩
      rw [Hk.out, ← HM.out, List.take_length, Hrs.out]
      rfl
end Go.Proofs.YtdeboajjhpecbaaGreatDoor.Tx
