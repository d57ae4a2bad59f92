/- Values, keys of tables, their hashes; seeds of values. -/
import Derived.Test.YtlgnjbdkkpjjaaaTxt
import Derived.Test.YtlgnjbdkkpjjaaaWld
import Derived.Laws.StructEq
import Derived.Laws.BitsLemmas
import Derived.OwnWalk
import Derived.Lib.QuietBelow
import Derived.Deep.CutBlock
set_option linter.unusedVariables false
set_option linter.unusedSimpArgs false
namespace Go.Proofs.Ytlgnjbdkkpjjaaa
open Go.RowKit Go.Sort

/-- One value comes back; nothing that was there has turned. -/
def Ret (v : Value) (w : World) (e : Ending) (w' : World) : Prop := e = .returned v ∧ Below w.heap.size w w'
/-- A value: kind, number, units. -/
abbrev VS (k n : Int) (s : ByteArray) : Value := .agg #[.int .i64 k, .int .i64 n, .string s]
abbrev SC (k n : Int) (s : ByteArray) : Obj := .cells #[.int .i64 k, .int .i64 n, .string s] 27
theorem ba_ext {a b : ByteArray} (h : a.toList = b.toList) : a = b := by
  have : a.data.toList = b.data.toList := by rw [← ByteArray.toList_eq, ← ByteArray.toList_eq, h]
  exact ByteArray.ext (Array.toList_inj.1 this)
set_option maxHeartbeats 400000 in
theorem key_any (k n : Int) (s : ByteArray) (w : World) (h : (k == 6) = false) : Calls Try.prog 29 #[VS k n s] w (Ret (VS k n s) w) := by
  go_enter Try.func29, Try.ntmps29
  go_wp2
  exact bodyPost_ret (v := VS k n s) (by simp [results, Try.results29, go_sem]) rfl ⟨rfl, ((Below.refl _ _).alloc (Nat.le_refl _) _).alloc (by simp) _⟩
set_option maxHeartbeats 400000 in
theorem key_nz (n : Int) (s : ByteArray) (w : World) : Calls Try.prog 29 #[VS 6 n s] w (Ret (VS 3 0 ⟨#[]⟩) w) := by
  go_enter Try.func29, Try.ntmps29
  go_wp2
  exact bodyPost_ret (v := VS 3 0 ⟨#[]⟩) (by simp [results, Try.results29, go_sem]) rfl ⟨rfl, ((Below.refl _ _).alloc (Nat.le_refl _) _).alloc (by simp) _⟩
/-- Are two values the same? -/
def veq (k n : Int) (s : ByteArray) (k' n' : Int) (s' : ByteArray) : Bool := k == k' && (n == n' && s.toList == s'.toList)

/-- The eight bytes of a number, and what Hash comes to: over a value's kind and number, then over the bytes of its units. -/
def dig (n : Int) : Nat → Int
  | 0 => IntKind.u64.wrap n
  | 1 => IntKind.u64.wrap n / 256
  | 2 => IntKind.u64.wrap n / 65536
  | 3 => IntKind.u64.wrap n / 16777216
  | 4 => IntKind.u64.wrap n / 4294967296
  | 5 => IntKind.u64.wrap n / 1099511627776
  | 6 => IntKind.u64.wrap n / 281474976710656
  | _ => IntKind.u64.wrap n / 72057594037927936
def hF (k n : Int) : Nat → Int
  | 0 => bits .xor .u32 2166136261 (k % 4294967296) * 16777619 % 4294967296
  | j + 1 => bits .xor .u32 (hF k n j) (bits .and .u64 (dig n j) 255 % 4294967296) * 16777619 % 4294967296
def byteZ (s : ByteArray) (j : Nat) : Int := if h : j < s.size then (s[j].toNat : Int) else 0
def hG (k n : Int) (s : ByteArray) : Nat → Int
  | 0 => hF k n 8
  | j + 1 => bits .xor .u32 (hG k n s j) (byteZ s j % 4294967296) * 16777619 % 4294967296
set_option maxHeartbeats 4000000 in
set_option maxRecDepth 100000 in
theorem hash_any (k n : Int) (s : ByteArray) (k1 n1 : Int) (s1 : ByteArray) (w : World) (hs : s1.size ≤ 4000) (C : ∀ W, Calls Try.prog 29 #[VS k n s] W (Ret (VS k1 n1 s1) W)) : Calls Try.prog 38 #[VS k n s] w (Ret (.int .u32 (hG k1 n1 s1 s1.size)) w) := by
  have HC := Lib.hid C
  clear C
  go_enter Try.func38, Try.ntmps38
  go_wp2_with fail
  have bb := ((Below.refl w.heap.size w).alloc (Nat.le_refl _) (.cells #[.int .i64 k, .int .i64 n, .string s] 27))
  have kx := Blk.new w 27 #[.int .i64 k, .int .i64 n, .string s]
  refine (HC.out _).mono ?_
  rintro e w1 ⟨rfl, b1⟩
  have kx := kx.below b1 kx.lt
  have bb := bb.trans (b1.mono bb.size)
  have x0 : w1.cell? ⟨w.heap.size, 0, none⟩ = some (.int .i64 k) := by rw [kx.cell]; rfl
  have x1 : w1.cell? ⟨w.heap.size, 1, none⟩ = some (.int .i64 n) := by rw [kx.cell]; rfl
  have x2 : w1.cell? ⟨w.heap.size, 2, none⟩ = some (.string s) := by rw [kx.cell]; rfl
  have z0 := kx.frozen 0
  have z1 := kx.frozen 1
  have z2 := kx.frozen 2
  have lx := kx.lt
  go_upto_region 2 with fail
  have kx : Blk _ w.heap.size 27 #[.int .i64 k1, .int .i64 n1, .string s1] := ((kx.set_ 0 (.int .i64 k1)).set_ 1 (.int .i64 n1)).set_ 2 (.string s1)
  have bb := ((bb.setCell (p := ⟨w.heap.size, 0, none⟩) (Nat.le_refl _) (.int .i64 k1)).setCell (p := ⟨w.heap.size, 1, none⟩) (Nat.le_refl _) (.int .i64 n1)).setCell (p := ⟨w.heap.size, 2, none⟩) (Nat.le_refl _) (.string s1)
  clear x0 x1 x2 z0 z1 z2 lx
  generalize ((w1.setCell ⟨w.heap.size, 0, none⟩ (.int .i64 k1)).setCell ⟨w.heap.size, 1, none⟩ (.int .i64 n1)).setCell ⟨w.heap.size, 2, none⟩ (.string s1) = V at *
  have x0 : V.cell? ⟨w.heap.size, 0, none⟩ = some (.int .i64 k1) := by rw [kx.cell]; rfl
  have x1 : V.cell? ⟨w.heap.size, 1, none⟩ = some (.int .i64 n1) := by rw [kx.cell]; rfl
  have x2 : V.cell? ⟨w.heap.size, 2, none⟩ = some (.string s1) := by rw [kx.cell]; rfl
  have lx := kx.lt
  go_wp2_with fail
  go_loopw [3, 4] (fun h i wr => ∃ j : Nat, j ≤ 8 ∧ h = .int .u32 (hF k1 n1 j) ∧ i = .int .i64 (8 * (j : Int)) ∧ wr = V) (fun _ i _ => 64 - (intOf i).toNat)
  case atStart => exact ⟨0, by decide, rfl, rfl, rfl⟩
  case round =>
    obtain ⟨j, hj, rfl, rfl, rfl⟩ := hrel
    by_cases hlt : j < 8
    · have hcc : j = 0 ∨ j = 1 ∨ j = 2 ∨ j = 3 ∨ j = 4 ∨ j = 5 ∨ j = 6 ∨ j = 7 := by omega
      have hst : ∀ h, hF k1 n1 j = h → hF k1 n1 (j + 1) = bits .xor .u32 h (bits .and .u64 (dig n1 j) 255 % 4294967296) * 16777619 % 4294967296 := fun h e => by rw [← e]; rfl
      generalize hh : hF k1 n1 j = h at *
      have hst := Lib.hid (hst h rfl)
      clear hh
      rcases hcc with rfl | rfl | rfl | rfl | rfl | rfl | rfl | rfl
      · go_wp2
        go_roundw
        case rel => exact ⟨1, by decide, by rw [hst.out]; rfl, rfl, trivial⟩
        case measure => simp [intOf]
      · go_wp2
        go_roundw
        case rel => exact ⟨2, by decide, by rw [hst.out]; rfl, rfl, trivial⟩
        case measure => simp [intOf]
      · go_wp2
        go_roundw
        case rel => exact ⟨3, by decide, by rw [hst.out]; rfl, rfl, trivial⟩
        case measure => simp [intOf]
      · go_wp2
        go_roundw
        case rel => exact ⟨4, by decide, by rw [hst.out]; rfl, rfl, trivial⟩
        case measure => simp [intOf]
      · go_wp2
        go_roundw
        case rel => exact ⟨5, by decide, by rw [hst.out]; rfl, rfl, trivial⟩
        case measure => simp [intOf]
      · go_wp2
        go_roundw
        case rel => exact ⟨6, by decide, by rw [hst.out]; rfl, rfl, trivial⟩
        case measure => simp [intOf]
      · go_wp2
        go_roundw
        case rel => exact ⟨7, by decide, by rw [hst.out]; rfl, rfl, trivial⟩
        case measure => simp [intOf]
      · go_wp2
        go_roundw
        case rel => exact ⟨8, by decide, by rw [hst.out]; rfl, rfl, trivial⟩
        case measure => simp [intOf]
    · have hj8 : j = 8 := by omega
      subst hj8
      have T2 : (8 * ((8 : Nat) : Int)) = 64 := rfl
      go_wp2_with fail
      go_loopw [3, 31] (fun h i wr2 => ∃ j : Nat, j ≤ s1.size ∧ h = .int .u32 (hG k1 n1 s1 j) ∧ i = .int .i64 (j : Int) ∧ wr2 = wr) (fun _ i _ => s1.size - (intOf i).toNat)
      case atStart => exact ⟨0, Nat.zero_le _, rfl, rfl, rfl⟩
      case round =>
        obtain ⟨j, hj, rfl, rfl, rfl⟩ := hrel
        by_cases hlt : j < s1.size
        · have hst : ∀ h, hG k1 n1 s1 j = h → hG k1 n1 s1 (j + 1) = bits .xor .u32 h ((s1[j].toNat : Int) % 4294967296) * 16777619 % 4294967296 := fun h e => by
            rw [← e]; show bits .xor .u32 (hG k1 n1 s1 j) (byteZ s1 j % 4294967296) * 16777619 % 4294967296 = _
            unfold byteZ; rw [dif_pos hlt]
          generalize hh : hG k1 n1 s1 j = h at *
          have hst := Lib.hid (hst h rfl)
          clear hh
          have T0 : (0 : Int) ≤ (j : Int) := by omega
          have T1 : (j : Int) < (s1.size : Int) := by omega
          go_wp2
          go_roundw
          case rel => exact ⟨j + 1, by omega, by rw [hst.out], by go_num, trivial⟩
          case measure => simp [intOf]; omega
        · have hj8 : j = s1.size := by omega
          subst hj8
          have T2 : decide ((s1.size : Int) < (s1.size : Int)) = false := by simp
          go_wp2
          go_ret
          exact ⟨rfl, bb⟩
set_option maxHeartbeats 4000000 in
theorem samezero_any (k n : Int) (s : ByteArray) (k' n' : Int) (s' : ByteArray) (p q : Int) (r : ByteArray) (p' q' : Int) (r' : ByteArray) (w : World) (C : ∀ W, Calls Try.prog 29 #[VS k n s] W (Ret (VS p q r) W)) (C' : ∀ W, Calls Try.prog 29 #[VS k' n' s'] W (Ret (VS p' q' r') W)) :
    Calls Try.prog 39 #[VS k n s, VS k' n' s'] w (Ret (.bool (veq p q r p' q' r')) w) := by
  have HC := Lib.hid C
  have HC' := Lib.hid C'
  clear C C'
  obtain ⟨g1, hg1⟩ : ∃ b, (p == p') = b := ⟨_, rfl⟩
  obtain ⟨g2, hg2⟩ : ∃ b, (q == q') = b := ⟨_, rfl⟩
  obtain ⟨g3, hg3⟩ : ∃ b, (r.toList == r'.toList) = b := ⟨_, rfl⟩
  have hv : veq p q r p' q' r' = (g1 && (g2 && g3)) := by unfold veq; rw [hg1, hg2, hg3]
  rw [hv]
  clear hv
  go_enter Try.func39, Try.ntmps39
  go_upto_region 1 with fail
  have kx := (Blk.new w 27 #[.int .i64 k, .int .i64 n, .string s]).alloc (.cells #[.int .i64 k', .int .i64 n', .string s'] 27)
  have ky := Blk.new (w.alloc (.cells #[.int .i64 k, .int .i64 n, .string s] 27)) 27 #[.int .i64 k', .int .i64 n', .string s']
  rw [World.size_alloc] at ky
  have bb := ((Below.refl w.heap.size w).alloc (Nat.le_refl _) (.cells #[.int .i64 k, .int .i64 n, .string s] 27)).alloc (by simp) (.cells #[.int .i64 k', .int .i64 n', .string s'] 27)
  generalize ((w.alloc (.cells #[.int .i64 k, .int .i64 n, .string s] 27)).alloc (.cells #[.int .i64 k', .int .i64 n', .string s'] 27)) = V at *
  have x0 : V.cell? ⟨w.heap.size, 0, none⟩ = some (.int .i64 k) := by rw [kx.cell]; rfl
  have x1 : V.cell? ⟨w.heap.size, 1, none⟩ = some (.int .i64 n) := by rw [kx.cell]; rfl
  have x2 : V.cell? ⟨w.heap.size, 2, none⟩ = some (.string s) := by rw [kx.cell]; rfl
  have y0 : V.cell? ⟨w.heap.size + 1, 0, none⟩ = some (.int .i64 k') := by rw [ky.cell]; rfl
  have y1 : V.cell? ⟨w.heap.size + 1, 1, none⟩ = some (.int .i64 n') := by rw [ky.cell]; rfl
  have y2 : V.cell? ⟨w.heap.size + 1, 2, none⟩ = some (.string s') := by rw [ky.cell]; rfl
  have Qx0 := fun d os => cell_regrown x0 d os
  have Qx1 := fun d os => cell_regrown x1 d os
  have Qx2 := fun d os => cell_regrown x2 d os
  have Qy0 := fun d os => cell_regrown y0 d os
  have Qy1 := fun d os => cell_regrown y1 d os
  have Qy2 := fun d os => cell_regrown y2 d os
  have lx := kx.lt
  have ly := ky.lt
  clear x0 x1 x2 y0 y1 y2 kx ky
  have up := fun d os => bb.trans ((below_regrown V d os).mono bb.size)
  have D1 := fun d os => Calls.regrown_of (HC.out (grow (redrawn V d) os))
  have D2 := fun d os => Calls.regrown_of (HC'.out (grow (redrawn V d) os))
  cases g1 <;> cases g2 <;> cases g3
  all_goals
    refine wp_region_quiet_below (by kernel_rfl) (by kernel_rfl) ?_
    repeat (first | go_big_quiet_step (first | with_reducible exact D1 _ _ | with_reducible exact D2 _ _) | quiet_step (first | with_reducible exact D1 _ _ | with_reducible exact D2 _ _))
    refine wpQuiet_nil ?_
    intro _ hw'
    obtain ⟨⟨dq, osq⟩, hw''⟩ := hw'
    subst hw''
    have be := up dq osq
    clear D1 D2 up Qx0 Qx1 Qx2 Qy0 Qy1 Qy2
    go_wp2
    go_ret
    exact ⟨by simp [hg1, hg2, hg3], be⟩
/-- A value as a key: -0 as 0. -/
def kK (k : Int) : Int := if k == 6 then 3 else k
def kN (k n : Int) : Int := if k == 6 then 0 else n
def kS (k : Int) (s : ByteArray) : ByteArray := if k == 6 then ⟨#[]⟩ else s
theorem key_all (k n : Int) (s : ByteArray) (W : World) : Calls Try.prog 29 #[VS k n s] W (Ret (VS (kK k) (kN k n) (kS k s)) W) := by
  unfold kK kN kS
  by_cases h : (k == 6) = true
  · rw [if_pos h, if_pos h, if_pos h]
    obtain rfl : k = 6 := by simpa using h
    exact key_nz n s W
  · rw [if_neg h, if_neg h, if_neg h]
    exact key_any k n s W (by simpa using h)
def lowBits (N : Int) (m : Nat) : Nat := (BitVec.ofInt 64 N).toNat &&& m
theorem lowBits_le (N : Int) (m : Nat) : lowBits N m ≤ m := Nat.and_le_right
theorem and_1 (N : Int) : bits .and .i64 N 1 = (lowBits N 1 : Int) := by
  have h := lowBits_le N 1
  show IntKind.i64.wrap (((BitVec.ofInt 64 N &&& BitVec.ofInt 64 1).toNat : Nat) : Int) = _
  rw [BitVec.toNat_and, show (BitVec.ofInt 64 1).toNat = 1 by decide, IntKind.wrap_i64]
  unfold lowBits at h ⊢
  omega
theorem and_63 (N : Int) : bits .and .i64 N 63 = (lowBits N 63 : Int) := by
  have h := lowBits_le N 63
  show IntKind.i64.wrap (((BitVec.ofInt 64 N &&& BitVec.ofInt 64 63).toNat : Nat) : Int) = _
  rw [BitVec.toNat_and, show (BitVec.ofInt 64 63).toNat = 63 by decide, IntKind.wrap_i64]
  unfold lowBits at h ⊢
  omega
def seedN (kk : Nat) (N : Int) : Int := if kk = 2 then (lowBits N 1 : Int) else if kk = 3 then N.tmod 9007199254740992 else if kk = 5 then 1 - 2 * (lowBits N 1 : Int) else if kk = 8 ∨ kk = 9 then (lowBits N 63 : Int) + 1 else 0
def seedU (kk : Nat) (l : List Nat) : List Nat := if kk = 7 then l else []
abbrev SeedV (K N : Int) (a : Option Addr) (n cap : Nat) : Value := .agg #[.int .i64 K, .int .i64 N, .slice a n cap]

theorem uS_nil : Tx.uS [] = ⟨#[]⟩ := rfl
set_option maxHeartbeats 2000000 in
set_option maxRecDepth 100000 in
theorem seed_0 (K N : Int) (a : Option Addr) (n cap : Nat) (w : World) (hK : Hid ((wrap64 (K.tmod 11 + 11)).tmod 11 = 0)) : Calls Try.prog 19 #[SeedV K N a n cap] w (Ret (VS 0 0 ⟨#[]⟩) w) := by
  have hk := hK.out
  go_enter Try.func19, Try.ntmps19
  go_wp2
  exact bodyPost_ret (v := VS 0 0 ⟨#[]⟩) (by simp [results, Try.results19, go_sem]) rfl ⟨rfl, ((Below.refl _ _).alloc (Nat.le_refl _) _).alloc (by simp) _⟩
set_option maxHeartbeats 2000000 in
set_option maxRecDepth 100000 in
theorem seed_1 (K N : Int) (a : Option Addr) (n cap : Nat) (w : World) (hK : Hid ((wrap64 (K.tmod 11 + 11)).tmod 11 = 1)) : Calls Try.prog 19 #[SeedV K N a n cap] w (Ret (VS 1 0 ⟨#[]⟩) w) := by
  have hk := hK.out
  go_enter Try.func19, Try.ntmps19
  go_wp2
  exact bodyPost_ret (v := VS 1 0 ⟨#[]⟩) (by simp [results, Try.results19, go_sem]) rfl ⟨rfl, ((Below.refl _ _).alloc (Nat.le_refl _) _).alloc (by simp) _⟩
set_option maxHeartbeats 2000000 in
set_option maxRecDepth 100000 in
theorem seed_2 (K N : Int) (a : Option Addr) (n cap : Nat) (w : World) (hK : Hid ((wrap64 (K.tmod 11 + 11)).tmod 11 = 2)) : Calls Try.prog 19 #[SeedV K N a n cap] w (Ret (VS 2 (lowBits N 1 : Int) ⟨#[]⟩) w) := by
  have hk := hK.out
  have h1 := and_1 N
  have h2 := lowBits_le N 1
  generalize lowBits N 1 = c at *
  go_enter Try.func19, Try.ntmps19
  go_wp2
  exact bodyPost_ret (v := VS 2 (c : Int) ⟨#[]⟩) (by simp [results, Try.results19, go_sem]) rfl ⟨rfl, ((Below.refl _ _).alloc (Nat.le_refl _) _).alloc (by simp) _⟩
set_option maxHeartbeats 2000000 in
set_option maxRecDepth 100000 in
theorem seed_3 (K N : Int) (a : Option Addr) (n cap : Nat) (w : World) (hK : Hid ((wrap64 (K.tmod 11 + 11)).tmod 11 = 3)) : Calls Try.prog 19 #[SeedV K N a n cap] w (Ret (VS 3 (N.tmod 9007199254740992) ⟨#[]⟩) w) := by
  have hk := hK.out
  go_enter Try.func19, Try.ntmps19
  go_wp2
  exact bodyPost_ret (v := VS 3 (N.tmod 9007199254740992) ⟨#[]⟩) (by simp [results, Try.results19, go_sem]) rfl ⟨rfl, ((Below.refl _ _).alloc (Nat.le_refl _) _).alloc (by simp) _⟩
set_option maxHeartbeats 2000000 in
set_option maxRecDepth 100000 in
theorem seed_4 (K N : Int) (a : Option Addr) (n cap : Nat) (w : World) (hK : Hid ((wrap64 (K.tmod 11 + 11)).tmod 11 = 4)) : Calls Try.prog 19 #[SeedV K N a n cap] w (Ret (VS 4 0 ⟨#[]⟩) w) := by
  have hk := hK.out
  go_enter Try.func19, Try.ntmps19
  go_wp2
  exact bodyPost_ret (v := VS 4 0 ⟨#[]⟩) (by simp [results, Try.results19, go_sem]) rfl ⟨rfl, ((Below.refl _ _).alloc (Nat.le_refl _) _).alloc (by simp) _⟩
set_option maxHeartbeats 2000000 in
set_option maxRecDepth 100000 in
theorem seed_5 (K N : Int) (a : Option Addr) (n cap : Nat) (w : World) (hK : Hid ((wrap64 (K.tmod 11 + 11)).tmod 11 = 5)) : Calls Try.prog 19 #[SeedV K N a n cap] w (Ret (VS 5 (1 - 2 * (lowBits N 1 : Int)) ⟨#[]⟩) w) := by
  have hk := hK.out
  have h1 := and_1 N
  have h2 := lowBits_le N 1
  generalize lowBits N 1 = c at *
  go_enter Try.func19, Try.ntmps19
  go_wp2
  exact bodyPost_ret (v := VS 5 (1 - 2 * (c : Int)) ⟨#[]⟩) (by simp [results, Try.results19, go_sem]) rfl ⟨rfl, ((Below.refl _ _).alloc (Nat.le_refl _) _).alloc (by simp) _⟩
set_option maxHeartbeats 2000000 in
set_option maxRecDepth 100000 in
theorem seed_6 (K N : Int) (a : Option Addr) (n cap : Nat) (w : World) (hK : Hid ((wrap64 (K.tmod 11 + 11)).tmod 11 = 6)) : Calls Try.prog 19 #[SeedV K N a n cap] w (Ret (VS 6 0 ⟨#[]⟩) w) := by
  have hk := hK.out
  go_enter Try.func19, Try.ntmps19
  go_wp2
  exact bodyPost_ret (v := VS 6 0 ⟨#[]⟩) (by simp [results, Try.results19, go_sem]) rfl ⟨rfl, ((Below.refl _ _).alloc (Nat.le_refl _) _).alloc (by simp) _⟩
set_option maxHeartbeats 2000000 in
set_option maxRecDepth 100000 in
theorem seed_8 (K N : Int) (a : Option Addr) (n cap : Nat) (w : World) (hK : Hid ((wrap64 (K.tmod 11 + 11)).tmod 11 = 8)) : Calls Try.prog 19 #[SeedV K N a n cap] w (Ret (VS 8 ((lowBits N 63 : Int) + 1) ⟨#[]⟩) w) := by
  have hk := hK.out
  have h1 := and_63 N
  have h2 := lowBits_le N 63
  generalize lowBits N 63 = c at *
  go_enter Try.func19, Try.ntmps19
  go_wp2
  exact bodyPost_ret (v := VS 8 ((c : Int) + 1) ⟨#[]⟩) (by simp [results, Try.results19, go_sem]) rfl ⟨rfl, ((Below.refl _ _).alloc (Nat.le_refl _) _).alloc (by simp) _⟩
set_option maxHeartbeats 2000000 in
set_option maxRecDepth 100000 in
theorem seed_9 (K N : Int) (a : Option Addr) (n cap : Nat) (w : World) (hK : Hid ((wrap64 (K.tmod 11 + 11)).tmod 11 = 9)) : Calls Try.prog 19 #[SeedV K N a n cap] w (Ret (VS 9 ((lowBits N 63 : Int) + 1) ⟨#[]⟩) w) := by
  have hk := hK.out
  have h1 := and_63 N
  have h2 := lowBits_le N 63
  generalize lowBits N 63 = c at *
  go_enter Try.func19, Try.ntmps19
  go_wp2
  exact bodyPost_ret (v := VS 9 ((c : Int) + 1) ⟨#[]⟩) (by simp [results, Try.results19, go_sem]) rfl ⟨rfl, ((Below.refl _ _).alloc (Nat.le_refl _) _).alloc (by simp) _⟩
set_option maxHeartbeats 2000000 in
set_option maxRecDepth 100000 in
theorem seed_10 (K N : Int) (a : Option Addr) (n cap : Nat) (w : World) (hK : Hid ((wrap64 (K.tmod 11 + 11)).tmod 11 = 10)) : Calls Try.prog 19 #[SeedV K N a n cap] w (Ret (VS 10 0 ⟨#[]⟩) w) := by
  have hk := hK.out
  go_enter Try.func19, Try.ntmps19
  go_wp2
  exact bodyPost_ret (v := VS 10 0 ⟨#[]⟩) (by simp [results, Try.results19, go_sem]) rfl ⟨rfl, ((Below.refl _ _).alloc (Nat.le_refl _) _).alloc (by simp) _⟩
set_option maxHeartbeats 4000000 in
set_option maxRecDepth 100000 in
theorem seed_7 (K N : Int) (a : Option Addr) (n cap : Nat) (l : List Nat) (w : World) (hK : Hid ((wrap64 (K.tmod 11 + 11)).tmod 11 = 7)) (h : Tx.SliceR .u16 w a n cap (Tx.ints l)) (hf : Tx.Fits l) (hn : n ≤ 2000) :
    Calls Try.prog 19 #[SeedV K N a n cap] w (Ret (VS 7 0 (Tx.uS l)) w) := by
  have hk := hK.out
  obtain ⟨i0, hi, hz0, hz1, hz2⟩ := info_parts Tx.infoInt
  obtain ⟨h1, h2, h3, h3', h4⟩ := h
  rw [Tx.ints_length] at h1
  have H4 := Lib.hid h4
  clear h3' h4
  go_enter Try.func19, Try.ntmps19
  go_wp2_with fail
  clear hk
  have kr := Blk.new (w.alloc (.cells #[.int .i64 K, .int .i64 N, .slice a n cap] 42)) 27 #[.int .i64 0, .int .i64 0, .string ⟨#[]⟩]
  rw [World.size_alloc] at kr
  have bb := ((Below.refl w.heap.size w).alloc (Nat.le_refl _) (.cells #[.int .i64 K, .int .i64 N, .slice a n cap] 42)).alloc (by simp) (.cells #[.int .i64 0, .int .i64 0, .string ⟨#[]⟩] 27)
  generalize (w.alloc (.cells #[.int .i64 K, .int .i64 N, .slice a n cap] 42)).alloc (.cells #[.int .i64 0, .int .i64 0, .string ⟨#[]⟩] 27) = W at *
  have hkl := kr.lt
  have HKR := Lib.hid kr
  clear kr
  go_loopw [4, 41] (fun v i wr => ∃ k : Nat, k ≤ n ∧ i = .int .i64 k ∧ wr.ownsRow W.heap.size 3 1 v k (Tx.numCells .i64 (Tx.ints (l.take k))) ∧ Below W.heap.size W wr) (fun _ i _ => n - (intOf i).toNat)
  case atStart => exact ⟨0, Nat.zero_le _, rfl, World.ownsRow_nil _ _ _ _, Below.refl _ _⟩
  case round =>
    obtain ⟨k, hk, rfl, hown, hb⟩ := hrel
    by_cases hlt : k < n
    · obtain ⟨b, off, rfl, hbl, hcell⟩ := H4.out (by omega)
      have bw := bb.trans (hb.mono bb.size)
      have hck := (bw.cell (p := ⟨b, off + k, none⟩) hbl).trans (hcell k hlt)
      rw [Tx.ints_getD] at hck
      have hul : l.getD k 0 < 65536 := by
        rw [List.getD_eq_getElem?_getD, List.getElem?_eq_getElem (by omega)]; exact hf _ (List.getElem_mem _)
      have hts := Tx.take_snocN l k (by omega)
      obtain ⟨u, hu⟩ : ∃ u, u = l.getD k 0 := ⟨_, rfl⟩
      rw [← hu] at hck hul hts
      have HT := Lib.hid hts
      clear hts hcell h1 hu bw
      have hz := hb.size
      have hk0 : (0 : Int) ≤ (k : Int) := by omega
      have hk1 : (k : Int) < (n : Int) := by omega
      have y0 : (0 : Int) ≤ (u : Int) := by omega
      go_wp2_with (at_builtin; refine wpList_append_own _ rfl _ _ 22 rfl W.heap.size 3 i0 (.int .i64 0) 1 8 Try.underlying22 hi hz0 hz1 hz2 rfl (by decide) _ _ _ rfl (hown.alloc _) ⟨wr.heap.size, 0, none⟩ 1 1 [.int .i64 (u : Int)] rfl rfl (by intro j v hj; match j, hj with | 0, hj => simp at hj; subst hj; simp [Addr.add]) (by simp [Value.oneCell']) (by unfold maxLen; omega) (by omega) (by simp; omega) ?_)
      intro v' w1 hown1 hgrow _
      have hb2 := (hb.alloc hz (.cells #[.int .i64 (u : Int)] 3)).grown hgrow (by simp; omega) (fun k' hk' => ((hown.alloc (.cells #[.int .i64 (u : Int)] 3)).lt k' hk').1)
      clear hown hgrow
      go_wp2
      go_roundw
      case rel =>
        refine ⟨k + 1, by omega, by go_num, ?_, hb2⟩
        rw [HT.out, Tx.ints_append, Tx.numCells_append]
        exact hown1
      case measure => simp [intOf]; omega
    · have hk2 : k = n := by omega
      subst hk2
      have t1 : decide ((k : Int) < (k : Int)) = false := by simp
      rw [List.take_of_length_le (by omega)] at hown
      subst h1
      obtain ⟨a', cap', rfl, hR, hB⟩ := Tx.sliceR_own (l := Tx.ints l) (by rw [Tx.ints_length]; exact hown)
      rw [Tx.ints_length] at hR ⊢
      clear H4 h2 h3
      have HR := Lib.hid hR
      clear hR hown
      go_wp2_with fail
      refine (Tx.str_any a' l.length cap' l _ HR.out hf (by omega)).mono ?_
      rintro e w2 ⟨rfl, b2⟩
      have hb2 := hb.trans (b2.mono hb.size)
      have kr := HKR.out.below hb2 hkl
      have x0 : w2.cell? ⟨w.heap.size + 1, 0, none⟩ = some (.int .i64 0) := by rw [kr.cell]; rfl
      have x1 : w2.cell? ⟨w.heap.size + 1, 1, none⟩ = some (.int .i64 0) := by rw [kr.cell]; rfl
      have x2 : w2.cell? ⟨w.heap.size + 1, 2, none⟩ = some (.string ⟨#[]⟩) := by rw [kr.cell]; rfl
      have z0 := kr.frozen 0
      have z1 := kr.frozen 1
      have z2 := kr.frozen 2
      have lr := kr.lt
      have be := bb.trans (hb2.mono bb.size)
      clear kr hb b2 hb2 bb
      go_wp2
      exact bodyPost_ret (v := VS 7 0 (Tx.uS l)) (by simp [results, Try.results19, go_sem, x0, x1, x2, lr]) rfl ⟨rfl, ((be.setCell (p := ⟨w.heap.size + 1, 0, none⟩) (by simp) _).setCell (p := ⟨w.heap.size + 1, 1, none⟩) (by simp) _).setCell (p := ⟨w.heap.size + 1, 2, none⟩) (by simp) _⟩
theorem seed_any (K N : Int) (a : Option Addr) (n cap : Nat) (l : List Nat) (kk : Nat) (w : World) (hK : Hid ((wrap64 (K.tmod 11 + 11)).tmod 11 = (kk : Int))) (hk : kk ≤ 10) (h : Tx.SliceR .u16 w a n cap (Tx.ints l)) (hf : Tx.Fits l) (hn : n ≤ 2000) :
    Calls Try.prog 19 #[SeedV K N a n cap] w (Ret (VS kk (seedN kk N) (Tx.uS (seedU kk l))) w) := by
  have hc : kk = 0 ∨ kk = 1 ∨ kk = 2 ∨ kk = 3 ∨ kk = 4 ∨ kk = 5 ∨ kk = 6 ∨ kk = 7 ∨ kk = 8 ∨ kk = 9 ∨ kk = 10 := by omega
  rcases hc with rfl | rfl | rfl | rfl | rfl | rfl | rfl | rfl | rfl | rfl | rfl
  · exact seed_0 K N a n cap w hK
  · exact seed_1 K N a n cap w hK
  · exact seed_2 K N a n cap w hK
  · exact seed_3 K N a n cap w hK
  · exact seed_4 K N a n cap w hK
  · exact seed_5 K N a n cap w hK
  · exact seed_6 K N a n cap w hK
  · exact seed_7 K N a n cap l w hK h hf hn
  · exact seed_8 K N a n cap w hK
  · exact seed_9 K N a n cap w hK
  · exact seed_10 K N a n cap w hK
theorem seed_kk (K : Int) : ∃ kk : Nat, kk ≤ 10 ∧ (wrap64 (K.tmod 11 + 11)).tmod 11 = (kk : Int) := by
  have h2 := Int.tmod_lt_of_pos K (show (0 : Int) < 11 by decide)
  have h3 := Int.lt_tmod_of_pos K (show (0 : Int) < 11 by decide)
  generalize K.tmod 11 = r at *
  have e : wrap64 (r + 11) = r + 11 := by unfold wrap64; omega
  rw [e, Int.tmod_eq_emod_of_nonneg (by omega)]
  refine ⟨((r + 11) % 11).toNat, by omega, by omega⟩
theorem seedU_fits {kk : Nat} {u : List Nat} (hf : Tx.Fits u) : Tx.Fits (seedU kk u) := by
  unfold seedU
  split
  · exact hf
  · exact fun u h => by cases h
end Go.Proofs.Ytlgnjbdkkpjjaaa
