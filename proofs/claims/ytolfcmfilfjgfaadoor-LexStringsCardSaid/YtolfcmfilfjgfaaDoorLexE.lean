/- What stands behind a backslash. -/
import Derived.Test.YtolfcmfilfjgfaaDoorLexB
import Derived.Test.YtolfcmfilfjgfaaDoorTxtO
import Derived.Lib.ConvBytes
import Derived.Laws.BytesArg
import Derived.Lib.UnsafeStr
set_option linter.unusedVariables false
set_option linter.unusedSimpArgs false
namespace Go.Proofs.YtolfcmfilfjgfaaDoor
open Go.RowKit

def hexsL : List UInt8 := [48, 49, 50, 51, 52, 53, 54, 55, 56, 57, 97, 98, 99, 100, 101, 102, 65, 66, 67, 68, 69, 70]
def hexD (c : UInt8) : Option Nat :=
  if Lib.indexByte hexsL c < 0 then none else if 16 ≤ Lib.indexByte hexsL c then some ((Lib.indexByte hexsL c).toNat - 6) else some (Lib.indexByte hexsL c).toNat
def hexL : Nat → List UInt8 → Option Nat
  | u, [] => some u
  | u, c :: r => (hexD c).bind fun d => hexL (u * 16 + d) r
def escsL : List UInt8 := [110, 116, 48, 92, 39, 34]
def escL : List UInt8 → Option (List UInt8 × Nat)
  | [] => none
  | b :: r =>
    if Lib.indexByte escsL b < 0 then (if b != 117 || decide (r.length < 4) then none else (hexL 0 (r.take 4)).map fun u => (unitB u, 5))
    else some (ofB ((⟨#[10, 9, 0, 92, 39, 34]⟩ : ByteArray).extract (Lib.indexByte escsL b).toNat ((Lib.indexByte escsL b).toNat + 1)), 1)
def escV : Option (List UInt8 × Nat) → Value
  | none => .tuple #[.string ⟨#[]⟩, .int .i64 0, .bool false]
  | some (u, n) => .tuple #[.string ⟨u.toArray⟩, .int .i64 n, .bool true]
theorem hexD_lt (c : UInt8) (d : Nat) (h : hexD c = some d) : d < 16 := by
  unfold hexD at h
  split at h
  · cases h
  · obtain ⟨i, hi⟩ := Int.eq_ofNat_of_zero_le (show 0 ≤ Lib.indexByte hexsL c by omega)
    have := indexByte_in _ _ i hi
    have h22 : hexsL.length = 22 := rfl
    rw [hi] at h
    split at h
    · simp only [Option.some.injEq, Int.ofNat_eq_natCast, Int.toNat_natCast] at h; omega
    · rename_i h1 h2
      simp only [Option.some.injEq, Int.ofNat_eq_natCast, Int.toNat_natCast] at h h2; omega

theorem bytes_below (w : World) (e : TypeId) (s : ByteArray) : Below w.heap.size w (Lib.bytesWorld w e s) :=
  Lib.below_freeze ((Below.drew (Below.refl _ w)).alloc (Nat.le_refl _) _) (p := ⟨w.heap.size, _, none⟩) (Nat.le_refl _) 1
theorem byte_c (p : ByteArray) (b : UInt8) (z : Int) (h : Lib.indexByte p.data.toList b = z) (w : World) :
    Calls Tryd.prog 13 #[.string p, .int .u8 (b.toNat : Int)] w fun e w' => e = .returned (.int .i64 z) ∧ w = w' := by
  refine (Tryd.strings_IndexByte _ _ _).mono ?_
  rintro e w' ⟨rfl, rfl⟩
  exact ⟨by rw [show ((b.toNat : Int)).toNat.toUInt8 = b by simp, h], rfl⟩
theorem esc_byte (b : UInt8) (z : Int) (h : Hid (Lib.indexByte escsL b = z)) (w : World) :
    Calls Tryd.prog 13 #[.string ⟨#[110, 116, 48, 92, 39, 34]⟩, .int .u8 (b.toNat : Int)] w fun e w' => e = .returned (.int .i64 z) ∧ w = w' := byte_c _ b z h.out w
theorem esc_byte117 (z : Int) (h : Hid (Lib.indexByte escsL 117 = z)) (w : World) :
    Calls Tryd.prog 13 #[.string ⟨#[110, 116, 48, 92, 39, 34]⟩, .int .u8 117] w fun e w' => e = .returned (.int .i64 z) ∧ w = w' := esc_byte 117 z h w
theorem hex_byte (b : UInt8) (z : Int) (h : Hid (Lib.indexByte hexsL b = z)) (w : World) :
    Calls Tryd.prog 13 #[.string ⟨#[48, 49, 50, 51, 52, 53, 54, 55, 56, 57, 97, 98, 99, 100, 101, 102, 65, 66, 67, 68, 69, 70]⟩, .int .u8 (b.toNat : Int)] w fun e w' => e = .returned (.int .i64 z) ∧ w = w' := byte_c _ b z h.out w
theorem conv_two (w : World) (u : Nat) (hu : u < 65536) : (convert 37 9 (.slice (some ⟨w.heap.size, 0, none⟩) 2 2)).run Tryd.prog (w.alloc (.cells #[.int .u8 ((u / 256 : Nat) : Int), .int .u8 ((u % 256 : Nat) : Int)] 5)) = .ok (.string ⟨(unitB u).toArray⟩) (w.alloc (.cells #[.int .u8 ((u / 256 : Nat) : Int), .int .u8 ((u % 256 : Nat) : Int)] 5)) := by
  have hh := heap_alloc_new w (.cells #[.int .u8 ((u / 256 : Nat) : Int), .int .u8 ((u % 256 : Nat) : Int)] 5)
  have hc : ∀ i, i < 2 → (w.alloc (.cells #[.int .u8 ((u / 256 : Nat) : Int), .int .u8 ((u % 256 : Nat) : Int)] 5)).cell? ⟨w.heap.size, 0 + i, none⟩ = some (.int .u8 ([((u / 256 : Nat) : Int), ((u % 256 : Nat) : Int)].getD i 0)) := by
    intro i hi
    rw [Lib.cell_of_heap hh]
    match i, hi with
    | 0, _ => rfl
    | 1, _ => rfl
  rw [run_convert_bytes_arg _ 37 5 Tryd.underlying37 Tryd.underlying5 w.heap.size 0 2 2 [((u / 256 : Nat) : Int), ((u % 256 : Nat) : Int)] rfl hc 9 Tryd.underlying9]
  rfl

set_option maxHeartbeats 1000000 in
theorem escape_any (s : ByteArray) (w : World) (hs : s.size ≤ 16384) :
    Calls Tryd.prog 26 #[.string s] w fun e w' => e = .returned (escV (escL s.data.toList)) ∧ Below w.heap.size w w' := by
  have hlen := len_of s
  by_cases he : s.data.toList = []
  · have hE : s.toList = [] := by rw [ByteArray.toList_eq]; exact he
    rw [he]
    go_enter Tryd.func26, Tryd.ntmps26
    go_wp2
    exact bodyPost_ret (v := .tuple #[.string ⟨#[]⟩, .int .i64 0, .bool false]) (by simp [results, Tryd.results26, go_sem]) rfl ⟨rfl, Below.refl _ _⟩
  · have hE : ¬ s.toList = [] := by rw [ByteArray.toList_eq]; exact he
    have hE2 : s.toList.isEmpty = false := by cases h : s.toList with | nil => exact absurd h hE | cons _ _ => rfl
    have h0 : 0 < s.size := by
      rcases Nat.eq_zero_or_pos s.size with h | h
      · exact absurd (List.eq_nil_of_length_eq_zero (hlen.trans h)) he
      · exact h
    have h0' : (0 : Int) < s.size := by omega
    have hd := drop_at s 0 h0
    rw [List.drop_zero] at hd
    obtain ⟨z, hz⟩ : ∃ z, Lib.indexByte escsL s[0] = z := ⟨_, rfl⟩
    have hesc : escL s.data.toList = if z < 0 then (if s[0] != 117 || decide (s.size < 5) then none else (hexL 0 ((s.data.toList.drop 1).take 4)).map fun u => (unitB u, 5)) else some (ofB ((⟨#[10, 9, 0, 92, 39, 34]⟩ : ByteArray).extract z.toNat (z.toNat + 1)), 1) := by
      rw [hd, escL, hz, show decide ((s.data.toList.drop 1).length < 4) = decide (s.size < 5) by rw [decide_eq_decide, List.length_drop, hlen]; omega]
      rfl
    have HE := Lib.hid hesc
    have HD := Lib.hid hd
    have HZ := Lib.hid hz
    clear hesc hd hz he
    by_cases hzn : z < 0
    · have L1 : decide ((0 : Int) ≤ z) = false := by simpa using hzn
      obtain ⟨g1, e1⟩ : ∃ g, ((s[0].toNat : Int) == 117) = g := ⟨_, rfl⟩
      have e2 : (s[0] == 117) = g1 := by rw [u8_eq]; exact e1
      have E2 := Lib.hid e2
      clear e2
      have hbad : (s[0] != 117 || decide (s.size < 5)) = true → escL s.data.toList = none := fun hb => by rw [HE.out, if_pos hzn, if_pos hb]
      cases g1
      · have e3 : ¬ (s[0].toNat : Int) = 117 := by simpa using e1
        have HN := Lib.hid (hbad (by simp only [bne, E2.out]; rfl))
        clear hbad
        go_enter Tryd.func26, Tryd.ntmps26
        go_wp2_with fail
        refine (esc_byte _ z HZ _).mono ?_
        rintro e w' ⟨rfl, rfl⟩
        go_wp2
        exact bodyPost_ret (v := .tuple #[.string ⟨#[]⟩, .int .i64 0, .bool false]) (by simp [results, Tryd.results26, go_sem]) rfl ⟨by rw [HN.out]; rfl, Below.refl _ _⟩
      · have e3 : (s[0].toNat : Int) = 117 := by simpa using e1
        have HZ7 : Hid (Lib.indexByte escsL 117 = z) := Lib.hid (by rw [← HZ.out, show s[0] = 117 by simpa using E2.out])
        by_cases h5 : s.size < 5
        · have L6 : (s.size : Int) < 5 := by omega
          have L5 : decide ((s.size : Int) < 5) = true := by simp; omega
          have HN := Lib.hid (hbad (by simp [h5]))
          clear hbad
          go_enter Tryd.func26, Tryd.ntmps26
          go_wp2_with fail
          refine (esc_byte117 z HZ7 _).mono ?_
          rintro e w' ⟨rfl, rfl⟩
          go_wp2
          exact bodyPost_ret (v := .tuple #[.string ⟨#[]⟩, .int .i64 0, .bool false]) (by simp [results, Tryd.results26, go_sem]) rfl ⟨by rw [HN.out]; rfl, Below.refl _ _⟩
        · have L5 : decide ((s.size : Int) < 5) = false := by simp; omega
          have hN : escL s.data.toList = (hexL 0 ((s.data.toList.drop 1).take 4)).map fun u => (unitB u, 5) := by rw [HE.out, if_pos hzn, if_neg (by simp [bne, E2.out, h5])]
          have hx := ext_piece s 1 5
          have HN := Lib.hid hN
          clear hbad hN
          have h5a : (5 : Int) ≤ s.size := by omega
          obtain ⟨x, hxe⟩ : ∃ x, s.extract 1 5 = x := ⟨_, rfl⟩
          have hx4 : x.size = 4 := by rw [← hxe, ByteArray.size_extract]; omega
          rw [hxe] at hx
          have HX := Lib.hid hx
          clear hx
          have kc := fun W => Lib.run_convert_string_bytes (P := Tryd.prog) W 9 37 5 x Tryd.underlying9 Tryd.underlying37 Tryd.underlying5
          go_enter Tryd.func26, Tryd.ntmps26
          go_wp2_with fail
          refine (esc_byte117 z HZ7 _).mono ?_
          rintro e w' ⟨rfl, rfl⟩
          go_wp2_with fail
          have cs : ∀ j, j < 4 → (Lib.bytesWorld w 5 x).cell? ⟨w.heap.size, j, none⟩ = some (.int .u8 (x.data.toList.getD j 0).toNat) := fun j hj => Lib.bytesWorld_cell w 5 x j (by omega)
          have hbw := bytes_below w 5 x
          have hsz := Lib.bytesWorld_size w 5 x
          try rw [hx4]
          generalize grownCap w 4 0 5 = cap at *
          generalize Lib.bytesWorld w 5 x = W at *
          clear kc h0' h5a
          have hxl : x.data.toList.length = 4 := by rw [len_of]; exact hx4
          rw [← (show x.data.toList = (s.data.toList.drop 1).take 4 from HX.out)] at HN
          clear HX hxe
          go_loop [6, 34] (fun vu vi => ∃ k u : Nat, k ≤ 4 ∧ vu = .int .i64 u ∧ vi = .int .i64 k ∧ u < 16 ^ k ∧ hexL u (x.data.toList.drop k) = hexL 0 x.data.toList) (fun _ vi => 4 - (intOf vi).toNat)
          case atStart => exact ⟨0, 0, by omega, rfl, rfl, by omega, rfl⟩
          case round =>
            obtain ⟨k, u, hk, rfl, rfl, hu, h1⟩ := hrel
            have H1 := Lib.hid h1
            clear h1
            by_cases hl : k < 4
            · have L2 : decide ((k : Int) < 4) = true := by simp; omega
              have y0 : (0 : Int) ≤ k := by omega
              have y1 : (k : Int) < 4 := by omega
              have y2 : (k : Int).toNat = k := by omega
              have hc := cs k hl
              clear cs
              have hu4 : u < 4096 := Nat.lt_of_lt_of_le hu (by match k, hl with | 0, _ => decide | 1, _ => decide | 2, _ => decide | 3, _ => decide)
              have hdr : x.data.toList.drop k = x.data.toList.getD k 0 :: x.data.toList.drop (k + 1) := by
                rw [List.drop_eq_getElem_cons (by omega)]
                congr 1
                rw [List.getD_eq_getElem?_getD, List.getElem?_eq_getElem (by omega)]; rfl
              generalize x.data.toList.getD k 0 = c at *
              have a1 : IntKind.i64.wrap ((k : Int) + 1) = ((k + 1 : Nat) : Int) := by rw [IntWalk.i64_in _ (by omega)]; rfl
              obtain ⟨z2, hz2⟩ : ∃ z, Lib.indexByte hexsL c = z := ⟨_, rfl⟩
              have hh : hexL u (x.data.toList.drop k) = (if z2 < 0 then none else if 16 ≤ z2 then some (z2.toNat - 6) else some z2.toNat).bind fun d => hexL (u * 16 + d) (x.data.toList.drop (k + 1)) := by rw [hdr, hexL, hexD, hz2]
              have HH := Lib.hid hh
              have HZ2 := Lib.hid hz2
              clear hh hdr
              by_cases hn : z2 < 0
              · have L3 : decide (z2 < 0) = true := by simpa using hn
                have hr : hexL 0 x.data.toList = none := by rw [← H1.out, HH.out, if_pos hn]; rfl
                go_wp2_with fail
                refine (hex_byte _ z2 HZ2 _).mono ?_
                rintro e w' ⟨rfl, rfl⟩
                go_wp2
                exact bodyPost_ret (v := .tuple #[.string ⟨#[]⟩, .int .i64 0, .bool false]) (by simp [results, Tryd.results26, go_sem]) rfl ⟨by rw [HN.out, hr]; rfl, hbw⟩
              · obtain ⟨i, rfl⟩ := Int.eq_ofNat_of_zero_le (show 0 ≤ z2 by omega)
                have hi22 : i < 22 := indexByte_in _ _ i hz2
                clear hz2
                have L3 : decide ((i : Int) < 0) = false := by simp
                have hstep : ∀ d : Nat, d < 16 → (if 16 ≤ (i : Int) then some (i - 6) else some i) = some d → hexL (u * 16 + d) (x.data.toList.drop (k + 1)) = hexL 0 x.data.toList ∧ u * 16 + d < 16 ^ (k + 1) := by
                  intro d hd16 hd
                  refine ⟨?_, by rw [Nat.pow_succ]; omega⟩
                  rw [← H1.out, HH.out, if_neg hn, Int.toNat_natCast, hd]; rfl
                by_cases h16 : 16 ≤ i
                · have L4 : decide ((16 : Int) ≤ (i : Int)) = true := by simp; omega
                  obtain ⟨d, hd⟩ : ∃ d, i - 6 = d := ⟨_, rfl⟩
                  obtain ⟨g1, g2⟩ := hstep d (by omega) (by rw [if_pos (by omega), hd])
                  have b1 : IntKind.i64.wrap ((i : Int) - 6) = (d : Int) := by rw [IntWalk.i64_in _ (by omega)]; omega
                  have b2 : IntKind.i64.wrap ((u : Int) * 16) = ((u * 16 : Nat) : Int) := by rw [IntWalk.i64_in _ (by omega)]; omega
                  have b3 : IntKind.i64.wrap (((u * 16 : Nat) : Int) + (d : Int)) = ((u * 16 + d : Nat) : Int) := by rw [IntWalk.i64_in _ (by omega)]; omega
                  have G := Lib.hid (And.intro g1 g2)
                  have hd16 : d < 16 := by omega
                  clear hstep g1 g2 hd
                  go_wp2_with fail
                  refine (hex_byte _ _ HZ2 _).mono ?_
                  rintro e w' ⟨rfl, rfl⟩
                  go_wp2
                  go_round
                  case rel => exact ⟨k + 1, u * 16 + d, by omega, by rw [show ((u * 16 + d : Nat) : Int) = (u : Int) * 16 + d by omega], rfl, G.out.2, G.out.1⟩
                  case measure => simp only [intOf]; omega
                · have L4 : decide ((16 : Int) ≤ (i : Int)) = false := by simp; omega
                  obtain ⟨g1, g2⟩ := hstep i (by omega) (by rw [if_neg (by omega)])
                  have b2 : IntKind.i64.wrap ((u : Int) * 16) = ((u * 16 : Nat) : Int) := by rw [IntWalk.i64_in _ (by omega)]; omega
                  have b3 : IntKind.i64.wrap (((u * 16 : Nat) : Int) + (i : Int)) = ((u * 16 + i : Nat) : Int) := by rw [IntWalk.i64_in _ (by omega)]; omega
                  have G := Lib.hid (And.intro g1 g2)
                  clear hstep g1 g2
                  go_wp2_with fail
                  refine (hex_byte _ _ HZ2 _).mono ?_
                  rintro e w' ⟨rfl, rfl⟩
                  go_wp2
                  go_round
                  case rel => exact ⟨k + 1, u * 16 + i, by omega, by rw [show ((u * 16 + i : Nat) : Int) = (u : Int) * 16 + i by omega], rfl, G.out.2, G.out.1⟩
                  case measure => simp only [intOf]; omega
            · obtain rfl : k = 4 := by omega
              have hu4 : u < 65536 := hu
              have hr : hexL 0 x.data.toList = some u := by rw [← H1.out, List.drop_of_length_le (by omega), hexL]
              have u1 : IntKind.u8.wrap ((u : Int) / 256) = ((u / 256 : Nat) : Int) := by rw [IntWalk.u8_in _ (by omega)]; omega
              have u2 : IntKind.u8.wrap (u : Int) = ((u % 256 : Nat) : Int) := by
                show (u : Int) % 256 = ((u % 256 : Nat) : Int)
                omega
              have kc2 := conv_two W u hu4
              rw [hsz] at kc2
              simp only [Int.natCast_ediv, Int.natCast_emod, Int.cast_ofNat_Int] at kc2
              go_wp2_with fail
              exact bodyPost_ret (v := .tuple #[.string ⟨(unitB u).toArray⟩, .int .i64 5, .bool true]) (by simp [results, Tryd.results26, go_sem]) rfl ⟨by rw [HN.out, hr]; rfl, hbw.alloc (by omega) _⟩
    · obtain ⟨i, rfl⟩ := Int.eq_ofNat_of_zero_le (show 0 ≤ z by omega)
      have L1 : decide ((0 : Int) ≤ (i : Int)) = true := by simp
      have hi6 : i < 6 := indexByte_in _ _ i HZ.out
      have w1 : IntKind.i64.wrap ((i : Int) + 1) = ((i + 1 : Nat) : Int) := by rw [IntWalk.i64_in _ (by omega)]; rfl
      have hE2 : escL s.data.toList = some (ofB ((⟨#[10, 9, 0, 92, 39, 34]⟩ : ByteArray).extract i (i + 1)), 1) := by rw [HE.out, if_neg hzn, Int.toNat_natCast]
      obtain ⟨U, hU⟩ : ∃ U, ofB ((⟨#[10, 9, 0, 92, 39, 34]⟩ : ByteArray).extract i (i + 1)) = U := ⟨_, rfl⟩
      rw [hU] at hE2
      have y0 : (0 : Int) ≤ (i : Int) := by omega
      have y1 : (i : Int) ≤ (i : Int) + 1 := by omega
      have y2 : (i : Int) + 1 ≤ 6 := by omega
      have y3 : ((i : Int) + 1).toNat = i + 1 := by omega
      have y4 : (i : Int).toNat = i := by omega
      have HE2 := Lib.hid hE2
      have HU := Lib.hid hU
      clear hE2 hU
      go_enter Tryd.func26, Tryd.ntmps26
      go_wp2_with fail
      refine (esc_byte _ _ HZ _).mono ?_
      rintro e w' ⟨rfl, rfl⟩
      go_wp2_with fail
      refine (of_any _ _ (by rw [ByteArray.size_extract]; omega)).mono ?_
      rintro e W1 ⟨rfl, b1⟩
      rw [HU.out]
      go_wp2
      exact bodyPost_ret (v := .tuple #[.string ⟨U.toArray⟩, .int .i64 1, .bool true]) (by simp [results, Tryd.results26, go_sem]) rfl ⟨by rw [HE2.out]; rfl, b1⟩
end Go.Proofs.YtolfcmfilfjgfaaDoor
