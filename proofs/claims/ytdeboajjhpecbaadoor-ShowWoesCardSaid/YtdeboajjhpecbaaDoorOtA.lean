/- Values, keys of tables, their hashes; seeds of values. -/
import Derived.Test.YtdeboajjhpecbaaDoorTxt
import Derived.Test.YtdeboajjhpecbaaDoorWld
import Derived.Laws.StructEq
import Derived.Laws.BitsLemmas
import Derived.OwnWalk
import Derived.Lib.QuietBelow
import Derived.Deep.CutBlock
set_option linter.unusedVariables false
set_option linter.unusedSimpArgs false
namespace Go.Proofs.YtdeboajjhpecbaaDoor
open Go.RowKit Go.Sort

/-- One value comes back; nothing that was there has turned. -/
def Ret (v : Value) (w : World) (e : Ending) (w' : World) : Prop := e = .returned v ∧ Below w.heap.size w w'
/-- A value: kind, number, units. -/
abbrev VS (k n : Int) (s : ByteArray) : Value := .agg #[.int .i64 k, .int .i64 n, .string s]
abbrev SC (k n : Int) (s : ByteArray) : Obj := .cells #[.int .i64 k, .int .i64 n, .string s] 26
theorem ba_ext {a b : ByteArray} (h : a.toList = b.toList) : a = b := by
  have : a.data.toList = b.data.toList := by rw [← ByteArray.toList_eq, ← ByteArray.toList_eq, h]
  exact ByteArray.ext (Array.toList_inj.1 this)
set_option maxHeartbeats 400000 in
theorem key_any (k n : Int) (s : ByteArray) (w : World) (h : (k == 6) = false) : Calls Tryd.prog 48 #[VS k n s] w (Ret (VS k n s) w) := by
  go_enter Tryd.func48, Tryd.ntmps48
  go_wp2
  exact bodyPost_ret (v := VS k n s) (by simp [results, Tryd.results48, go_sem]) rfl ⟨rfl, ((Below.refl _ _).alloc (Nat.le_refl _) _).alloc (by simp) _⟩
set_option maxHeartbeats 400000 in
theorem key_nz (n : Int) (s : ByteArray) (w : World) : Calls Tryd.prog 48 #[VS 6 n s] w (Ret (VS 3 0 ⟨#[]⟩) w) := by
  go_enter Tryd.func48, Tryd.ntmps48
  go_wp2
  exact bodyPost_ret (v := VS 3 0 ⟨#[]⟩) (by simp [results, Tryd.results48, go_sem]) rfl ⟨rfl, ((Below.refl _ _).alloc (Nat.le_refl _) _).alloc (by simp) _⟩
/-- Are two values the same? -/
def veq (k n : Int) (s : ByteArray) (k' n' : Int) (s' : ByteArray) : Bool := k == k' && (n == n' && s.toList == s'.toList)

/-- The eight bytes of a number, and what Hash comes to: over a value's kind and number, then over the bytes of its units. -/
def dig (n : Int) : Nat → Int
  | 0 => IntKind.u64.wrap n
  | 1 => IntKind.u64.wrap n / 256
  | 2 => IntKind.u64.wrap n / 65536
  | 3 => IntKind.u64.wrap n / 16777216
  | 4 => IntKind.u64.wrap n / 4294967296
  | 5 => IntKind.u64.wrap n / 1099511627776
  | 6 => IntKind.u64.wrap n / 281474976710656
  | _ => IntKind.u64.wrap n / 72057594037927936
def hF (k n : Int) : Nat → Int
  | 0 => bits .xor .u32 2166136261 (k % 4294967296) * 16777619 % 4294967296
  | j + 1 => bits .xor .u32 (hF k n j) (bits .and .u64 (dig n j) 255 % 4294967296) * 16777619 % 4294967296
def byteZ (s : ByteArray) (j : Nat) : Int := if h : j < s.size then (s[j].toNat : Int) else 0
def hG (k n : Int) (s : ByteArray) : Nat → Int
  | 0 => hF k n 8
  | j + 1 => bits .xor .u32 (hG k n s j) (byteZ s j % 4294967296) * 16777619 % 4294967296
set_option maxHeartbeats 4000000 in
set_option maxRecDepth 100000 in
theorem hash_any (k n : Int) (s : ByteArray) (k1 n1 : Int) (s1 : ByteArray) (w : World) (hs : s1.size ≤ 4000) (C : ∀ W, Calls Tryd.prog 48 #[VS k n s] W (Ret (VS k1 n1 s1) W)) : Calls Tryd.prog 62 #[VS k n s] w (Ret (.int .u32 (hG k1 n1 s1 s1.size)) w) := by
  have HC := Lib.hid C
  clear C
  go_enter Tryd.func62, Tryd.ntmps62
  go_wp2_with fail
  have bb := ((Below.refl w.heap.size w).alloc (Nat.le_refl _) (.cells #[.int .i64 k, .int .i64 n, .string s] 26))
  have kx := Blk.new w 26 #[.int .i64 k, .int .i64 n, .string s]
  refine (HC.out _).mono ?_
  rintro e w1 ⟨rfl, b1⟩
  have kx := kx.below b1 kx.lt
  have bb := bb.trans (b1.mono bb.size)
  have x0 : w1.cell? ⟨w.heap.size, 0, none⟩ = some (.int .i64 k) := by rw [kx.cell]; rfl
  have x1 : w1.cell? ⟨w.heap.size, 1, none⟩ = some (.int .i64 n) := by rw [kx.cell]; rfl
  have x2 : w1.cell? ⟨w.heap.size, 2, none⟩ = some (.string s) := by rw [kx.cell]; rfl
  have z0 := kx.frozen 0
  have z1 := kx.frozen 1
  have z2 := kx.frozen 2
  have lx := kx.lt
  go_upto_region 2 with fail
  have kx : Blk _ w.heap.size 26 #[.int .i64 k1, .int .i64 n1, .string s1] := ((kx.set_ 0 (.int .i64 k1)).set_ 1 (.int .i64 n1)).set_ 2 (.string s1)
  have bb := ((bb.setCell (p := ⟨w.heap.size, 0, none⟩) (Nat.le_refl _) (.int .i64 k1)).setCell (p := ⟨w.heap.size, 1, none⟩) (Nat.le_refl _) (.int .i64 n1)).setCell (p := ⟨w.heap.size, 2, none⟩) (Nat.le_refl _) (.string s1)
  clear x0 x1 x2 z0 z1 z2 lx
  generalize ((w1.setCell ⟨w.heap.size, 0, none⟩ (.int .i64 k1)).setCell ⟨w.heap.size, 1, none⟩ (.int .i64 n1)).setCell ⟨w.heap.size, 2, none⟩ (.string s1) = V at *
  have x0 : V.cell? ⟨w.heap.size, 0, none⟩ = some (.int .i64 k1) := by rw [kx.cell]; rfl
  have x1 : V.cell? ⟨w.heap.size, 1, none⟩ = some (.int .i64 n1) := by rw [kx.cell]; rfl
  have x2 : V.cell? ⟨w.heap.size, 2, none⟩ = some (.string s1) := by rw [kx.cell]; rfl
  have lx := kx.lt
  go_wp2_with fail
  go_loopw [3, 4] (fun h i wr => ∃ j : Nat, j ≤ 8 ∧ h = .int .u32 (hF k1 n1 j) ∧ i = .int .i64 (8 * (j : Int)) ∧ wr = V) (fun _ i _ => 64 - (intOf i).toNat)
  case atStart => exact ⟨0, by decide, rfl, rfl, rfl⟩
  case round =>
    obtain ⟨j, hj, rfl, rfl, rfl⟩ := hrel
    by_cases hlt : j < 8
    · have hcc : j = 0 ∨ j = 1 ∨ j = 2 ∨ j = 3 ∨ j = 4 ∨ j = 5 ∨ j = 6 ∨ j = 7 := by omega
      have hst : ∀ h, hF k1 n1 j = h → hF k1 n1 (j + 1) = bits .xor .u32 h (bits .and .u64 (dig n1 j) 255 % 4294967296) * 16777619 % 4294967296 := fun h e => by rw [← e]; rfl
      generalize hh : hF k1 n1 j = h at *
      have hst := Lib.hid (hst h rfl)
      clear hh
      rcases hcc with rfl | rfl | rfl | rfl | rfl | rfl | rfl | rfl
      · go_wp2
        go_roundw
        case rel => exact ⟨1, by decide, by rw [hst.out]; rfl, rfl, trivial⟩
        case measure => simp [intOf]
      · go_wp2
        go_roundw
        case rel => exact ⟨2, by decide, by rw [hst.out]; rfl, rfl, trivial⟩
        case measure => simp [intOf]
      · go_wp2
        go_roundw
        case rel => exact ⟨3, by decide, by rw [hst.out]; rfl, rfl, trivial⟩
        case measure => simp [intOf]
      · go_wp2
        go_roundw
        case rel => exact ⟨4, by decide, by rw [hst.out]; rfl, rfl, trivial⟩
        case measure => simp [intOf]
      · go_wp2
        go_roundw
        case rel => exact ⟨5, by decide, by rw [hst.out]; rfl, rfl, trivial⟩
        case measure => simp [intOf]
      · go_wp2
        go_roundw
        case rel => exact ⟨6, by decide, by rw [hst.out]; rfl, rfl, trivial⟩
        case measure => simp [intOf]
      · go_wp2
        go_roundw
        case rel => exact ⟨7, by decide, by rw [hst.out]; rfl, rfl, trivial⟩
        case measure => simp [intOf]
      · go_wp2
        go_roundw
        case rel => exact ⟨8, by decide, by rw [hst.out]; rfl, rfl, trivial⟩
        case measure => simp [intOf]
    · have hj8 : j = 8 := by omega
      subst hj8
      have T2 : (8 * ((8 : Nat) : Int)) = 64 := rfl
      go_wp2_with fail
      go_loopw [3, 31] (fun h i wr2 => ∃ j : Nat, j ≤ s1.size ∧ h = .int .u32 (hG k1 n1 s1 j) ∧ i = .int .i64 (j : Int) ∧ wr2 = wr) (fun _ i _ => s1.size - (intOf i).toNat)
      case atStart => exact ⟨0, Nat.zero_le _, rfl, rfl, rfl⟩
      case round =>
        obtain ⟨j, hj, rfl, rfl, rfl⟩ := hrel
        by_cases hlt : j < s1.size
        · have hst : ∀ h, hG k1 n1 s1 j = h → hG k1 n1 s1 (j + 1) = bits .xor .u32 h ((s1[j].toNat : Int) % 4294967296) * 16777619 % 4294967296 := fun h e => by
            rw [← e]; show bits .xor .u32 (hG k1 n1 s1 j) (byteZ s1 j % 4294967296) * 16777619 % 4294967296 = _
            unfold byteZ; rw [dif_pos hlt]
          generalize hh : hG k1 n1 s1 j = h at *
          have hst := Lib.hid (hst h rfl)
          clear hh
          have T0 : (0 : Int) ≤ (j : Int) := by omega
          have T1 : (j : Int) < (s1.size : Int) := by omega
          go_wp2
          go_roundw
          case rel => exact ⟨j + 1, by omega, by rw [hst.out], by go_num, trivial⟩
          case measure => simp [intOf]; omega
        · have hj8 : j = s1.size := by omega
          subst hj8
          have T2 : decide ((s1.size : Int) < (s1.size : Int)) = false := by simp
          go_wp2
          go_ret
          exact ⟨rfl, bb⟩
set_option maxHeartbeats 4000000 in
theorem samezero_any (k n : Int) (s : ByteArray) (k' n' : Int) (s' : ByteArray) (p q : Int) (r : ByteArray) (p' q' : Int) (r' : ByteArray) (w : World) (C : ∀ W, Calls Tryd.prog 48 #[VS k n s] W (Ret (VS p q r) W)) (C' : ∀ W, Calls Tryd.prog 48 #[VS k' n' s'] W (Ret (VS p' q' r') W)) :
    Calls Tryd.prog 63 #[VS k n s, VS k' n' s'] w (Ret (.bool (veq p q r p' q' r')) w) := by
  have HC := Lib.hid C
  have HC' := Lib.hid C'
  clear C C'
  obtain ⟨g1, hg1⟩ : ∃ b, (p == p') = b := ⟨_, rfl⟩
  obtain ⟨g2, hg2⟩ : ∃ b, (q == q') = b := ⟨_, rfl⟩
  obtain ⟨g3, hg3⟩ : ∃ b, (r.toList == r'.toList) = b := ⟨_, rfl⟩
  have hv : veq p q r p' q' r' = (g1 && (g2 && g3)) := by unfold veq; rw [hg1, hg2, hg3]
  rw [hv]
  clear hv
  go_enter Tryd.func63, Tryd.ntmps63
  go_upto_region 1 with fail
  have kx := (Blk.new w 26 #[.int .i64 k, .int .i64 n, .string s]).alloc (.cells #[.int .i64 k', .int .i64 n', .string s'] 26)
  have ky := Blk.new (w.alloc (.cells #[.int .i64 k, .int .i64 n, .string s] 26)) 26 #[.int .i64 k', .int .i64 n', .string s']
  rw [World.size_alloc] at ky
  have bb := ((Below.refl w.heap.size w).alloc (Nat.le_refl _) (.cells #[.int .i64 k, .int .i64 n, .string s] 26)).alloc (by simp) (.cells #[.int .i64 k', .int .i64 n', .string s'] 26)
  generalize ((w.alloc (.cells #[.int .i64 k, .int .i64 n, .string s] 26)).alloc (.cells #[.int .i64 k', .int .i64 n', .string s'] 26)) = V at *
  have x0 : V.cell? ⟨w.heap.size, 0, none⟩ = some (.int .i64 k) := by rw [kx.cell]; rfl
  have x1 : V.cell? ⟨w.heap.size, 1, none⟩ = some (.int .i64 n) := by rw [kx.cell]; rfl
  have x2 : V.cell? ⟨w.heap.size, 2, none⟩ = some (.string s) := by rw [kx.cell]; rfl
  have y0 : V.cell? ⟨w.heap.size + 1, 0, none⟩ = some (.int .i64 k') := by rw [ky.cell]; rfl
  have y1 : V.cell? ⟨w.heap.size + 1, 1, none⟩ = some (.int .i64 n') := by rw [ky.cell]; rfl
  have y2 : V.cell? ⟨w.heap.size + 1, 2, none⟩ = some (.string s') := by rw [ky.cell]; rfl
  have Qx0 := fun d os => cell_regrown x0 d os
  have Qx1 := fun d os => cell_regrown x1 d os
  have Qx2 := fun d os => cell_regrown x2 d os
  have Qy0 := fun d os => cell_regrown y0 d os
  have Qy1 := fun d os => cell_regrown y1 d os
  have Qy2 := fun d os => cell_regrown y2 d os
  have lx := kx.lt
  have ly := ky.lt
  clear x0 x1 x2 y0 y1 y2 kx ky
  have up := fun d os => bb.trans ((below_regrown V d os).mono bb.size)
  have D1 := fun d os => Calls.regrown_of (HC.out (grow (redrawn V d) os))
  have D2 := fun d os => Calls.regrown_of (HC'.out (grow (redrawn V d) os))
  cases g1 <;> cases g2 <;> cases g3
  all_goals
    refine wp_region_quiet_below (by kernel_rfl) (by kernel_rfl) ?_
    repeat (first | go_big_quiet_step (first | with_reducible exact D1 _ _ | with_reducible exact D2 _ _) | quiet_step (first | with_reducible exact D1 _ _ | with_reducible exact D2 _ _))
    refine wpQuiet_nil ?_
    intro _ hw'
    obtain ⟨⟨dq, osq⟩, hw''⟩ := hw'
    subst hw''
    have be := up dq osq
    clear D1 D2 up Qx0 Qx1 Qx2 Qy0 Qy1 Qy2
    go_wp2
    go_ret
    exact ⟨by simp [hg1, hg2, hg3], be⟩
/-- A value as a key: -0 as 0. -/
def kK (k : Int) : Int := if k == 6 then 3 else k
def kN (k n : Int) : Int := if k == 6 then 0 else n
def kS (k : Int) (s : ByteArray) : ByteArray := if k == 6 then ⟨#[]⟩ else s
theorem key_all (k n : Int) (s : ByteArray) (W : World) : Calls Tryd.prog 48 #[VS k n s] W (Ret (VS (kK k) (kN k n) (kS k s)) W) := by
  unfold kK kN kS
  by_cases h : (k == 6) = true
  · rw [if_pos h, if_pos h, if_pos h]
    obtain rfl : k = 6 := by simpa using h
    exact key_nz n s W
  · rw [if_neg h, if_neg h, if_neg h]
    exact key_any k n s W (by simpa using h)
def lowBits (N : Int) (m : Nat) : Nat := (BitVec.ofInt 64 N).toNat &&& m
theorem lowBits_le (N : Int) (m : Nat) : lowBits N m ≤ m := Nat.and_le_right
theorem and_1 (N : Int) : bits .and .i64 N 1 = (lowBits N 1 : Int) := by
  have h := lowBits_le N 1
  show IntKind.i64.wrap (((BitVec.ofInt 64 N &&& BitVec.ofInt 64 1).toNat : Nat) : Int) = _
  rw [BitVec.toNat_and, show (BitVec.ofInt 64 1).toNat = 1 by decide, IntKind.wrap_i64]
  unfold lowBits at h ⊢
  omega
theorem and_63 (N : Int) : bits .and .i64 N 63 = (lowBits N 63 : Int) := by
  have h := lowBits_le N 63
  show IntKind.i64.wrap (((BitVec.ofInt 64 N &&& BitVec.ofInt 64 63).toNat : Nat) : Int) = _
  rw [BitVec.toNat_and, show (BitVec.ofInt 64 63).toNat = 63 by decide, IntKind.wrap_i64]
  unfold lowBits at h ⊢
  omega
def seedN (kk : Nat) (N : Int) : Int := if kk = 2 then (lowBits N 1 : Int) else if kk = 3 then N.tmod 9007199254740992 else if kk = 5 then 1 - 2 * (lowBits N 1 : Int) else if kk = 8 ∨ kk = 9 then (lowBits N 63 : Int) + 1 else 0
def seedU (kk : Nat) (l : List Nat) : List Nat := if kk = 7 then l else []
abbrev SeedV (K N : Int) (a : Option Addr) (n cap : Nat) : Value := .agg #[.int .i64 K, .int .i64 N, .slice a n cap]

theorem uS_nil : Tx.uS [] = ⟨#[]⟩ := rfl
theorem seed_kk (K : Int) : ∃ kk : Nat, kk ≤ 10 ∧ (wrap64 (K.tmod 11 + 11)).tmod 11 = (kk : Int) := by
  have h2 := Int.tmod_lt_of_pos K (show (0 : Int) < 11 by decide)
  have h3 := Int.lt_tmod_of_pos K (show (0 : Int) < 11 by decide)
  generalize K.tmod 11 = r at *
  have e : wrap64 (r + 11) = r + 11 := by unfold wrap64; omega
  rw [e, Int.tmod_eq_emod_of_nonneg (by omega)]
  refine ⟨((r + 11) % 11).toNat, by omega, by omega⟩
theorem seedU_fits {kk : Nat} {u : List Nat} (hf : Tx.Fits u) : Tx.Fits (seedU kk u) := by
  unfold seedU
  split
  · exact hf
  · exact fun u h => by cases h
end Go.Proofs.YtdeboajjhpecbaaDoor
