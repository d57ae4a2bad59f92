/- OtB: several texts in one. -/
import Derived.Test.YtdeboajjhpecbaaGreatDoorTxt
import Derived.Test.YtdeboajjhpecbaaGreatDoorWld
import Derived.Laws.StructEq
import Derived.Laws.BitsLemmas
import Derived.OwnWalk
import Derived.Lib.QuietBelow
import Derived.Deep.CutBlock
import Derived.Deep.DeepCutAuto
/- Values, keys of tables, their hashes; seeds of values. -/
set_option linter.unusedVariables false
set_option linter.unusedSimpArgs false
namespace Go.Proofs.YtdeboajjhpecbaaGreatDoor
open Go.RowKit Go.Sort

/-- One value comes back; nothing that was there has turned. -/
def Ret (v : Value) (w : World) (e : Ending) (w' : World) : Prop := e = .returned v ∧ Below w.heap.size w w'
/-- A value: kind, number, units. -/
abbrev VS (k n : Int) (s : ByteArray) : Value := .agg #[.int .i64 k, .int .i64 n, .string s]
abbrev SC (k n : Int) (s : ByteArray) : Obj := .cells #[.int .i64 k, .int .i64 n, .string s] 30
theorem ba_ext {a b : ByteArray} (h : a.toList = b.toList) : a = b := by
  have : a.data.toList = b.data.toList := by rw [← ByteArray.toList_eq, ← ByteArray.toList_eq, h]
  exact ByteArray.ext (Array.toList_inj.1 this)
set_option maxHeartbeats 400000 in
theorem key_any (k n : Int) (s : ByteArray) (w : World) (h : (k == 6) = false) : Calls Tryz.prog 97 #[VS k n s] w (Ret (VS k n s) w) := by
  go_enter Tryz.func97, Tryz.ntmps97
  go_wp2
  exact bodyPost_ret (v := VS k n s) (by simp [results, Tryz.results97, go_sem]) rfl ⟨rfl, ((Below.refl _ _).alloc (Nat.le_refl _) _).alloc (by simp) _⟩
set_option maxHeartbeats 400000 in
theorem key_nz (n : Int) (s : ByteArray) (w : World) : Calls Tryz.prog 97 #[VS 6 n s] w (Ret (VS 3 0 ⟨#[]⟩) w) := by
  go_enter Tryz.func97, Tryz.ntmps97
  go_wp2
  exact bodyPost_ret (v := VS 3 0 ⟨#[]⟩) (by simp [results, Tryz.results97, go_sem]) rfl ⟨rfl, ((Below.refl _ _).alloc (Nat.le_refl _) _).alloc (by simp) _⟩
/-- Are two values the same? -/
def veq (k n : Int) (s : ByteArray) (k' n' : Int) (s' : ByteArray) : Bool := k == k' && (n == n' && s.toList == s'.toList)

/-- The eight bytes of a number, and what Hash comes to: over a value's kind and number, then over the bytes of its units. -/
def dig (n : Int) : Nat → Int
  | 0 => IntKind.u64.wrap n
  | 1 => IntKind.u64.wrap n / 256
  | 2 => IntKind.u64.wrap n / 65536
  | 3 => IntKind.u64.wrap n / 16777216
  | 4 => IntKind.u64.wrap n / 4294967296
  | 5 => IntKind.u64.wrap n / 1099511627776
  | 6 => IntKind.u64.wrap n / 281474976710656
  | _ => IntKind.u64.wrap n / 72057594037927936
def hF (k n : Int) : Nat → Int
  | 0 => bits .xor .u32 2166136261 (k % 4294967296) * 16777619 % 4294967296
  | j + 1 => bits .xor .u32 (hF k n j) (bits .and .u64 (dig n j) 255 % 4294967296) * 16777619 % 4294967296
def byteZ (s : ByteArray) (j : Nat) : Int := if h : j < s.size then (s[j].toNat : Int) else 0
def hG (k n : Int) (s : ByteArray) : Nat → Int
  | 0 => hF k n 8
  | j + 1 => bits .xor .u32 (hG k n s j) (byteZ s j % 4294967296) * 16777619 % 4294967296
set_option maxHeartbeats 4000000 in
set_option maxRecDepth 100000 in
theorem hash_any (k n : Int) (s : ByteArray) (k1 n1 : Int) (s1 : ByteArray) (w : World) (hs : s1.size ≤ 4000) (C : ∀ W, Calls Tryz.prog 97 #[VS k n s] W (Ret (VS k1 n1 s1) W)) : Calls Tryz.prog 87 #[VS k n s] w (Ret (.int .u32 (hG k1 n1 s1 s1.size)) w) := by
  have HC := Lib.hid C
  clear C
  go_enter Tryz.func87, Tryz.ntmps87
  go_wp2_with fail
  have bb := ((Below.refl w.heap.size w).alloc (Nat.le_refl _) (.cells #[.int .i64 k, .int .i64 n, .string s] 30))
  have kx := Blk.new w 30 #[.int .i64 k, .int .i64 n, .string s]
  refine (HC.out _).mono ?_
  rintro e w1 ⟨rfl, b1⟩
  have kx := kx.below b1 kx.lt
  have bb := bb.trans (b1.mono bb.size)
  have x0 : w1.cell? ⟨w.heap.size, 0, none⟩ = some (.int .i64 k) := by rw [kx.cell]; rfl
  have x1 : w1.cell? ⟨w.heap.size, 1, none⟩ = some (.int .i64 n) := by rw [kx.cell]; rfl
  have x2 : w1.cell? ⟨w.heap.size, 2, none⟩ = some (.string s) := by rw [kx.cell]; rfl
  have z0 := kx.frozen 0
  have z1 := kx.frozen 1
  have z2 := kx.frozen 2
  have lx := kx.lt
  go_upto_region 2 with fail
  have kx : Blk _ w.heap.size 30 #[.int .i64 k1, .int .i64 n1, .string s1] := ((kx.set_ 0 (.int .i64 k1)).set_ 1 (.int .i64 n1)).set_ 2 (.string s1)
  have bb := ((bb.setCell (p := ⟨w.heap.size, 0, none⟩) (Nat.le_refl _) (.int .i64 k1)).setCell (p := ⟨w.heap.size, 1, none⟩) (Nat.le_refl _) (.int .i64 n1)).setCell (p := ⟨w.heap.size, 2, none⟩) (Nat.le_refl _) (.string s1)
  clear x0 x1 x2 z0 z1 z2 lx
  generalize ((w1.setCell ⟨w.heap.size, 0, none⟩ (.int .i64 k1)).setCell ⟨w.heap.size, 1, none⟩ (.int .i64 n1)).setCell ⟨w.heap.size, 2, none⟩ (.string s1) = V at *
  have x0 : V.cell? ⟨w.heap.size, 0, none⟩ = some (.int .i64 k1) := by rw [kx.cell]; rfl
  have x1 : V.cell? ⟨w.heap.size, 1, none⟩ = some (.int .i64 n1) := by rw [kx.cell]; rfl
  have x2 : V.cell? ⟨w.heap.size, 2, none⟩ = some (.string s1) := by rw [kx.cell]; rfl
  have lx := kx.lt
  go_wp2_with fail
  go_loopw [3, 4] (fun h i wr => ∃ j : Nat, j ≤ 8 ∧ h = .int .u32 (hF k1 n1 j) ∧ i = .int .i64 (8 * (j : Int)) ∧ wr = V) (fun _ i _ => 64 - (intOf i).toNat)
  case atStart => exact ⟨0, by decide, rfl, rfl, rfl⟩
  case round =>
    obtain ⟨j, hj, rfl, rfl, rfl⟩ := hrel
    by_cases hlt : j < 8
    · have hcc : j = 0 ∨ j = 1 ∨ j = 2 ∨ j = 3 ∨ j = 4 ∨ j = 5 ∨ j = 6 ∨ j = 7 := by omega
      have hst : ∀ h, hF k1 n1 j = h → hF k1 n1 (j + 1) = bits .xor .u32 h (bits .and .u64 (dig n1 j) 255 % 4294967296) * 16777619 % 4294967296 := fun h e => by rw [← e]; rfl
      generalize hh : hF k1 n1 j = h at *
      have hst := Lib.hid (hst h rfl)
      clear hh
      rcases hcc with rfl | rfl | rfl | rfl | rfl | rfl | rfl | rfl
      · go_wp2
        go_roundw
        case rel => exact ⟨1, by decide, by rw [hst.out]; rfl, rfl, trivial⟩
        case measure => simp [intOf]
      · go_wp2
        go_roundw
        case rel => exact ⟨2, by decide, by rw [hst.out]; rfl, rfl, trivial⟩
        case measure => simp [intOf]
      · go_wp2
        go_roundw
        case rel => exact ⟨3, by decide, by rw [hst.out]; rfl, rfl, trivial⟩
        case measure => simp [intOf]
      · go_wp2
        go_roundw
        case rel => exact ⟨4, by decide, by rw [hst.out]; rfl, rfl, trivial⟩
        case measure => simp [intOf]
      · go_wp2
        go_roundw
        case rel => exact ⟨5, by decide, by rw [hst.out]; rfl, rfl, trivial⟩
        case measure => simp [intOf]
      · go_wp2
        go_roundw
        case rel => exact ⟨6, by decide, by rw [hst.out]; rfl, rfl, trivial⟩
        case measure => simp [intOf]
      · go_wp2
        go_roundw
        case rel => exact ⟨7, by decide, by rw [hst.out]; rfl, rfl, trivial⟩
        case measure => simp [intOf]
      · go_wp2
        go_roundw
        case rel => exact ⟨8, by decide, by rw [hst.out]; rfl, rfl, trivial⟩
        case measure => simp [intOf]
    · have hj8 : j = 8 := by omega
      subst hj8
      have T2 : (8 * ((8 : Nat) : Int)) = 64 := rfl
      go_wp2_with fail
      go_loopw [3, 31] (fun h i wr2 => ∃ j : Nat, j ≤ s1.size ∧ h = .int .u32 (hG k1 n1 s1 j) ∧ i = .int .i64 (j : Int) ∧ wr2 = wr) (fun _ i _ => s1.size - (intOf i).toNat)
      case atStart => exact ⟨0, Nat.zero_le _, rfl, rfl, rfl⟩
      case round =>
        obtain ⟨j, hj, rfl, rfl, rfl⟩ := hrel
        by_cases hlt : j < s1.size
        · have hst : ∀ h, hG k1 n1 s1 j = h → hG k1 n1 s1 (j + 1) = bits .xor .u32 h ((s1[j].toNat : Int) % 4294967296) * 16777619 % 4294967296 := fun h e => by
            rw [← e]; show bits .xor .u32 (hG k1 n1 s1 j) (byteZ s1 j % 4294967296) * 16777619 % 4294967296 = _
            unfold byteZ; rw [dif_pos hlt]
          generalize hh : hG k1 n1 s1 j = h at *
          have hst := Lib.hid (hst h rfl)
          clear hh
          have T0 : (0 : Int) ≤ (j : Int) := by omega
          have T1 : (j : Int) < (s1.size : Int) := by omega
          go_wp2
          go_roundw
          case rel => exact ⟨j + 1, by omega, by rw [hst.out], by go_num, trivial⟩
          case measure => simp [intOf]; omega
        · have hj8 : j = s1.size := by omega
          subst hj8
          have T2 : decide ((s1.size : Int) < (s1.size : Int)) = false := by simp
          go_wp2
          go_ret
          exact ⟨rfl, bb⟩
set_option maxHeartbeats 4000000 in
theorem samezero_any (k n : Int) (s : ByteArray) (k' n' : Int) (s' : ByteArray) (p q : Int) (r : ByteArray) (p' q' : Int) (r' : ByteArray) (w : World) (C : ∀ W, Calls Tryz.prog 97 #[VS k n s] W (Ret (VS p q r) W)) (C' : ∀ W, Calls Tryz.prog 97 #[VS k' n' s'] W (Ret (VS p' q' r') W)) :
    Calls Tryz.prog 88 #[VS k n s, VS k' n' s'] w (Ret (.bool (veq p q r p' q' r')) w) := by
  have HC := Lib.hid C
  have HC' := Lib.hid C'
  clear C C'
  obtain ⟨g1, hg1⟩ : ∃ b, (p == p') = b := ⟨_, rfl⟩
  obtain ⟨g2, hg2⟩ : ∃ b, (q == q') = b := ⟨_, rfl⟩
  obtain ⟨g3, hg3⟩ : ∃ b, (r.toList == r'.toList) = b := ⟨_, rfl⟩
  have hv : veq p q r p' q' r' = (g1 && (g2 && g3)) := by unfold veq; rw [hg1, hg2, hg3]
  rw [hv]
  clear hv
  go_enter Tryz.func88, Tryz.ntmps88
  go_upto_region 1 with fail
  have kx := (Blk.new w 30 #[.int .i64 k, .int .i64 n, .string s]).alloc (.cells #[.int .i64 k', .int .i64 n', .string s'] 30)
  have ky := Blk.new (w.alloc (.cells #[.int .i64 k, .int .i64 n, .string s] 30)) 30 #[.int .i64 k', .int .i64 n', .string s']
  rw [World.size_alloc] at ky
  have bb := ((Below.refl w.heap.size w).alloc (Nat.le_refl _) (.cells #[.int .i64 k, .int .i64 n, .string s] 30)).alloc (by simp) (.cells #[.int .i64 k', .int .i64 n', .string s'] 30)
  generalize ((w.alloc (.cells #[.int .i64 k, .int .i64 n, .string s] 30)).alloc (.cells #[.int .i64 k', .int .i64 n', .string s'] 30)) = V at *
  have x0 : V.cell? ⟨w.heap.size, 0, none⟩ = some (.int .i64 k) := by rw [kx.cell]; rfl
  have x1 : V.cell? ⟨w.heap.size, 1, none⟩ = some (.int .i64 n) := by rw [kx.cell]; rfl
  have x2 : V.cell? ⟨w.heap.size, 2, none⟩ = some (.string s) := by rw [kx.cell]; rfl
  have y0 : V.cell? ⟨w.heap.size + 1, 0, none⟩ = some (.int .i64 k') := by rw [ky.cell]; rfl
  have y1 : V.cell? ⟨w.heap.size + 1, 1, none⟩ = some (.int .i64 n') := by rw [ky.cell]; rfl
  have y2 : V.cell? ⟨w.heap.size + 1, 2, none⟩ = some (.string s') := by rw [ky.cell]; rfl
  have Qx0 := fun d os => cell_regrown x0 d os
  have Qx1 := fun d os => cell_regrown x1 d os
  have Qx2 := fun d os => cell_regrown x2 d os
  have Qy0 := fun d os => cell_regrown y0 d os
  have Qy1 := fun d os => cell_regrown y1 d os
  have Qy2 := fun d os => cell_regrown y2 d os
  have lx := kx.lt
  have ly := ky.lt
  clear x0 x1 x2 y0 y1 y2 kx ky
  have up := fun d os => bb.trans ((below_regrown V d os).mono bb.size)
  have D1 := fun d os => Calls.regrown_of (HC.out (grow (redrawn V d) os))
  have D2 := fun d os => Calls.regrown_of (HC'.out (grow (redrawn V d) os))
  cases g1 <;> cases g2 <;> cases g3
  all_goals
    refine wp_region_quiet_below (by kernel_rfl) (by kernel_rfl) ?_
    repeat (first | go_big_quiet_step (first | with_reducible exact D1 _ _ | with_reducible exact D2 _ _) | quiet_step (first | with_reducible exact D1 _ _ | with_reducible exact D2 _ _))
    refine wpQuiet_nil ?_
    intro _ hw'
    obtain ⟨⟨dq, osq⟩, hw''⟩ := hw'
    subst hw''
    have be := up dq osq
    clear D1 D2 up Qx0 Qx1 Qx2 Qy0 Qy1 Qy2
    go_wp2
    go_ret
    exact ⟨by simp [hg1, hg2, hg3], be⟩
/-- A value as a key: -0 as 0. -/
def kK (k : Int) : Int := if k == 6 then 3 else k
def kN (k n : Int) : Int := if k == 6 then 0 else n
def kS (k : Int) (s : ByteArray) : ByteArray := if k == 6 then ⟨#[]⟩ else s
theorem key_all (k n : Int) (s : ByteArray) (W : World) : Calls Tryz.prog 97 #[VS k n s] W (Ret (VS (kK k) (kN k n) (kS k s)) W) := by
  unfold kK kN kS
  by_cases h : (k == 6) = true
  · rw [if_pos h, if_pos h, if_pos h]
    obtain rfl : k = 6 := by simpa using h
    exact key_nz n s W
  · rw [if_neg h, if_neg h, if_neg h]
    exact key_any k n s W (by simpa using h)
def lowBits (N : Int) (m : Nat) : Nat := (BitVec.ofInt 64 N).toNat &&& m
theorem lowBits_le (N : Int) (m : Nat) : lowBits N m ≤ m := Nat.and_le_right
theorem and_1 (N : Int) : bits .and .i64 N 1 = (lowBits N 1 : Int) := by
  have h := lowBits_le N 1
  show IntKind.i64.wrap (((BitVec.ofInt 64 N &&& BitVec.ofInt 64 1).toNat : Nat) : Int) = _
  rw [BitVec.toNat_and, show (BitVec.ofInt 64 1).toNat = 1 by decide, IntKind.wrap_i64]
  unfold lowBits at h ⊢
  omega
theorem and_63 (N : Int) : bits .and .i64 N 63 = (lowBits N 63 : Int) := by
  have h := lowBits_le N 63
  show IntKind.i64.wrap (((BitVec.ofInt 64 N &&& BitVec.ofInt 64 63).toNat : Nat) : Int) = _
  rw [BitVec.toNat_and, show (BitVec.ofInt 64 63).toNat = 63 by decide, IntKind.wrap_i64]
  unfold lowBits at h ⊢
  omega
def seedN (kk : Nat) (N : Int) : Int := if kk = 2 then (lowBits N 1 : Int) else if kk = 3 then N.tmod 9007199254740992 else if kk = 5 then 1 - 2 * (lowBits N 1 : Int) else if kk = 8 ∨ kk = 9 then (lowBits N 63 : Int) + 1 else 0
def seedU (kk : Nat) (l : List Nat) : List Nat := if kk = 7 then l else []
abbrev SeedV (K N : Int) (a : Option Addr) (n cap : Nat) : Value := .agg #[.int .i64 K, .int .i64 N, .slice a n cap]

theorem uS_nil : Tx.uS [] = ⟨#[]⟩ := rfl
theorem seed_kk (K : Int) : ∃ kk : Nat, kk ≤ 10 ∧ (wrap64 (K.tmod 11 + 11)).tmod 11 = (kk : Int) := by
  have h2 := Int.tmod_lt_of_pos K (show (0 : Int) < 11 by decide)
  have h3 := Int.lt_tmod_of_pos K (show (0 : Int) < 11 by decide)
  generalize K.tmod 11 = r at *
  have e : wrap64 (r + 11) = r + 11 := by unfold wrap64; omega
  rw [e, Int.tmod_eq_emod_of_nonneg (by omega)]
  refine ⟨((r + 11) % 11).toNat, by omega, by omega⟩
theorem seedU_fits {kk : Nat} {u : List Nat} (hf : Tx.Fits u) : Tx.Fits (seedU kk u) := by
  unfold seedU
  split
  · exact hf
  · exact fun u h => by cases h
end Go.Proofs.YtdeboajjhpecbaaGreatDoor

/- Tables: the plain part. -/
set_option linter.unusedVariables false
set_option linter.unusedSimpArgs false
namespace Go.Proofs.YtdeboajjhpecbaaGreatDoor

/-- A value: kind, number, units. -/
abbrev K3 := Int × Int × ByteArray
def norm (v : K3) : K3 := (kK v.1, kN v.1 v.2.1, kS v.1 v.2.2)
theorem norm_norm (v : K3) : norm (norm v) = norm v := by
  obtain ⟨k, n, s⟩ := v
  unfold norm kK kN kS
  by_cases h : (k == 6) = true
  · simp [h]
  · have : k ≠ 6 := by simpa using h
    simp [this]
/-- A key's hash. -/
def hs (v : K3) : Nat := (hG v.1 v.2.1 v.2.2 v.2.2.size).toNat

structure Ent where
  key : K3
  val : K3
  flags : Int
  grave : Bool

def isKey (k : K3) (e : Ent) : Bool := !e.grave && decide (norm e.key = norm k)
def grave0 : Ent := ⟨(0, 0, ⟨#[]⟩), (0, 0, ⟨#[]⟩), 0, true⟩

/-- The slot that a key comes to with so many steps. -/
def pr (n h d : Nat) : Nat := (h + d) % n
theorem pr_lt {n : Nat} (h d : Nat) (hn : 0 < n) : pr n h d < n := Nat.mod_lt _ hn
theorem pr_eq {n h d : Nat} (hd : d < n) : pr n h d = if h % n + d < n then h % n + d else h % n + d - n := by
  have h1 : h % n < n := Nat.mod_lt _ (by omega)
  unfold pr
  rw [← Nat.mod_add_mod]
  split
  · rename_i h2; exact Nat.mod_eq_of_lt h2
  · rename_i h2; rw [Nat.mod_eq_sub_mod (by omega), Nat.mod_eq_of_lt (by omega)]
theorem pr_all {n : Nat} (h s : Nat) (hs : s < n) : ∃ d, d < n ∧ pr n h d = s := by
  have h1 : h % n < n := Nat.mod_lt _ (by omega)
  rcases Nat.lt_or_ge s (h % n) with h2 | h2
  · refine ⟨s + n - h % n, by omega, ?_⟩
    rw [pr_eq (by omega)]; split <;> omega
  · refine ⟨s - h % n, by omega, ?_⟩
    rw [pr_eq (by omega)]; split <;> omega
theorem pr_back {n h d : Nat} (hd : d < n) : (pr n h d + n - h % n) % n = d := by
  have h1 : h % n < n := Nat.mod_lt _ (by omega)
  rw [pr_eq hd]
  split
  · rw [show h % n + d + n - h % n = d + n by omega, Nat.add_mod_right, Nat.mod_eq_of_lt hd]
  · rw [show h % n + d - n + n - h % n = d by omega, Nat.mod_eq_of_lt hd]
theorem pr_succ {n : Nat} (h d : Nat) : pr n h (d + 1) = (pr n h d + 1) % n := by
  unfold pr; rw [Nat.mod_add_mod, Nat.add_assoc]
theorem pr_inj {n : Nat} {h d d' : Nat} (hd : d < n) (hd' : d' < n) (e : pr n h d = pr n h d') : d = d' := by
  have h1 : h % n < n := Nat.mod_lt _ (by omega)
  rw [pr_eq hd, pr_eq hd'] at e
  split at e <;> split at e <;> omega

/-- Slots that serve entries. -/
structure Core (es : List Ent) (sl : List Nat) : Prop where
  inr : ∀ s i, sl.getD s 0 = i + 1 → i < es.length
  cnt : (sl.filter (· != 0)).length ≤ es.length
  probe : ∀ (i : Nat) (e : Ent), es[i]? = some e → e.grave = false → ∃ d, d < sl.length ∧ sl.getD (pr sl.length (hs e.key) d) 0 = i + 1 ∧ ∀ d', d' < d → sl.getD (pr sl.length (hs e.key) d') 0 ≠ 0
  keys : ∀ (i : Nat) (e : Ent), es[i]? = some e → e.grave = false → norm e.key = e.key
  dist : ∀ (i j : Nat) (e f : Ent), es[i]? = some e → es[j]? = some f → e.grave = false → f.grave = false → e.key = f.key → i = j

theorem getD_none {sl : List Nat} {s : Nat} (h : sl.length ≤ s) : sl.getD s 0 = 0 := by
  rw [List.getD_eq_getElem?_getD, List.getElem?_eq_none h]; rfl
theorem getD_set (sl : List Nat) (s x j : Nat) (h : s < sl.length) : (sl.set s x).getD j 0 = if j = s then x else sl.getD j 0 := by
  simp only [List.getD_eq_getElem?_getD, List.getElem?_set]
  by_cases e : s = j
  · subst e; simp [h]
  · rw [if_neg e, if_neg (fun e' => e e'.symm)]

theorem filter_lt {sl : List Nat} (h : (sl.filter (· != 0)).length < sl.length) : ∃ s, s < sl.length ∧ sl.getD s 0 = 0 := by
  induction sl with
  | nil => simp at h
  | cons x l ih =>
    by_cases hx : x = 0
    · exact ⟨0, by simp, by simp [hx]⟩
    · have hb : (x != 0) = true := by simpa using hx
      rw [List.filter_cons, if_pos hb, List.length_cons, List.length_cons] at h
      obtain ⟨s, h1, h2⟩ := ih (by omega)
      exact ⟨s + 1, by simp; omega, by simpa using h2⟩
theorem filter_set {sl : List Nat} {s x : Nat} (h : s < sl.length) (h0 : sl.getD s 0 = 0) : ((sl.set s x).filter (· != 0)).length ≤ (sl.filter (· != 0)).length + 1 := by
  induction sl generalizing s with
  | nil => simp at h
  | cons y l ih =>
    cases s with
    | zero =>
      simp at h0
      subst h0
      simp only [List.set_cons_zero, List.filter_cons]
      split
      · simp
      · simp
    | succ s =>
      simp only [List.set_cons_succ, List.filter_cons]
      have := ih (s := s) (by simpa using h) (by simpa using h0)
      split
      · simp only [List.length_cons]; omega
      · exact this

/-- There is a free slot on a key's way. -/
theorem Core.free {es : List Ent} {sl : List Nat} (c : Core es sl) (h : es.length < sl.length) (k : Nat) : ∃ d, d < sl.length ∧ sl.getD (pr sl.length k d) 0 = 0 := by
  obtain ⟨s, h1, h2⟩ := filter_lt (sl := sl) (Nat.lt_of_le_of_lt c.cnt h)
  obtain ⟨d, h3, h4⟩ := pr_all k s h1
  exact ⟨d, h3, by rw [h4]; exact h2⟩

/-- What find comes to. -/
inductive FindR (es : List Ent) (sl : List Nat) (k : K3) : Int → Nat → Prop
  | none0 : sl.length = 0 → FindR es sl k (-1) 0
  | none (d : Nat) : d < sl.length → sl.getD (pr sl.length (hs (norm k)) d) 0 = 0 → (∀ d', d' < d → sl.getD (pr sl.length (hs (norm k)) d') 0 ≠ 0) → (∀ (i : Nat) (e : Ent), es[i]? = some e → isKey k e = false) → FindR es sl k (-1) (pr sl.length (hs (norm k)) d)
  | some (s : Nat) (i : Nat) (e : Ent) : es[i]? = some e → isKey k e = true → FindR es sl k (i : Int) s

theorem Core.nokey {es : List Ent} {sl : List Nat} (c : Core es sl) {k : K3} {d : Nat} (hd : d < sl.length) (h0 : sl.getD (pr sl.length (hs (norm k)) d) 0 = 0)
    (hn : ∀ d', d' < d → ∀ (i : Nat) (e : Ent), sl.getD (pr sl.length (hs (norm k)) d') 0 = i + 1 → es[i]? = some e → isKey k e = false) : ∀ (i : Nat) (e : Ent), es[i]? = some e → isKey k e = false := by
  intro i e he
  cases hk : isKey k e with
  | false => rfl
  | true =>
    exfalso
    simp only [isKey, Bool.and_eq_true, Bool.not_eq_true', decide_eq_true_eq] at hk
    obtain ⟨d1, h1, h2, h3⟩ := c.probe i e he hk.1
    rw [← c.keys i e he hk.1, hk.2] at h2 h3
    rcases Nat.lt_trichotomy d1 d with h | h | h
    · have := hn d1 h i e h2 he
      simp [isKey, hk.1, hk.2] at this
    · subst h; omega
    · exact h3 d h h0

/-- An entry more. -/
theorem Core.add {es : List Ent} {sl : List Nat} (c : Core es sl) (e : Ent) (hg : e.grave = false) (hk : norm e.key = e.key) (hne : ∀ (i : Nat) (f : Ent), es[i]? = some f → f.grave = false → f.key ≠ e.key)
    {d : Nat} (hd : d < sl.length) (h0 : sl.getD (pr sl.length (hs e.key) d) 0 = 0) (hb : ∀ d', d' < d → sl.getD (pr sl.length (hs e.key) d') 0 ≠ 0) :
    Core (es ++ [e]) (sl.set (pr sl.length (hs e.key) d) (es.length + 1)) := by
  have hs0 : pr sl.length (hs e.key) d < sl.length := pr_lt _ _ (by omega)
  have hlast : ∀ i f, (es ++ [e])[i]? = some f → (i < es.length ∧ es[i]? = some f) ∨ (i = es.length ∧ f = e) := by
    intro i f hf
    rcases Nat.lt_or_ge i es.length with h | h
    · rw [List.getElem?_append_left h] at hf; exact .inl ⟨h, hf⟩
    · rw [List.getElem?_append_right h] at hf
      have : i - es.length = 0 := by
        rcases Nat.eq_zero_or_pos (i - es.length) with h' | h'
        · exact h'
        · rw [List.getElem?_eq_none (by simp; omega)] at hf; cases hf
      rw [this] at hf
      simp at hf
      exact .inr ⟨by omega, hf.symm⟩
  refine ⟨fun s i hi => ?_, ?_, fun i f hf hfg => ?_, fun i f hf hfg => ?_, fun i j f g hf hg' hfg hgg hfk => ?_⟩
  · rw [getD_set _ _ _ _ hs0] at hi
    rw [List.length_append]
    split at hi
    · simp; omega
    · have := c.inr s i hi; simp; omega
  · rw [List.length_append]
    have := filter_set (x := es.length + 1) hs0 h0
    have := c.cnt
    simp; omega
  · rw [List.length_set]
    rcases hlast i f hf with ⟨h1, h2⟩ | ⟨rfl, rfl⟩
    · obtain ⟨d1, g1, g2, g3⟩ := c.probe i f h2 hfg
      refine ⟨d1, g1, ?_, fun d' hd' => ?_⟩
      · rw [getD_set _ _ _ _ hs0, if_neg (fun e' => by rw [e', h0] at g2; omega)]; exact g2
      · rw [getD_set _ _ _ _ hs0]
        split
        · omega
        · exact g3 d' hd'
    · refine ⟨d, hd, by rw [getD_set _ _ _ _ hs0, if_pos rfl], fun d' hd' => ?_⟩
      rw [getD_set _ _ _ _ hs0]
      split
      · omega
      · exact hb d' hd'
  · rcases hlast i f hf with ⟨h1, h2⟩ | ⟨rfl, rfl⟩
    · exact c.keys i f h2 hfg
    · exact hk
  · rcases hlast i f hf with ⟨h1, h2⟩ | ⟨rfl, rfl⟩ <;> rcases hlast j g hg' with ⟨h3, h4⟩ | ⟨rfl, rfl⟩
    · exact c.dist i j f g h2 h4 hfg hgg hfk
    · exact absurd hfk (hne i f h2 hfg)
    · exact absurd hfk.symm (hne j g h4 hgg)
    · rfl

/-- An entry anew at its place, with its key. -/
theorem Core.put {es : List Ent} {sl : List Nat} (c : Core es sl) (j : Nat) (e f : Ent) (he : es[j]? = some e) (hf : f.key = e.key) (hg : f.grave = false → e.grave = false) : Core (es.set j f) sl := by
  have hj : j < es.length := (List.getElem?_eq_some_iff.1 he).1
  have hget : ∀ i g, (es.set j f)[i]? = some g → (i = j ∧ g = f) ∨ (i ≠ j ∧ es[i]? = some g) := by
    intro i g h
    rw [List.getElem?_set] at h
    split at h
    · rename_i h'; exact .inl ⟨h'.symm, by first | exact (Option.some.inj h).symm | (rw [if_pos (by omega)] at h; exact (Option.some.inj h).symm)⟩
    · rename_i h'; exact .inr ⟨fun e => h' e.symm, h⟩
  refine ⟨fun s i hi => by rw [List.length_set]; exact c.inr s i hi, by rw [List.length_set]; exact c.cnt, fun i g h hgg => ?_, fun i g h hgg => ?_, fun i k g g' h h' hgg hgg' hk => ?_⟩
  · rcases hget i g h with ⟨rfl, rfl⟩ | ⟨_, h2⟩
    · rw [hf]; exact c.probe i e he (hg hgg)
    · exact c.probe i g h2 hgg
  · rcases hget i g h with ⟨rfl, rfl⟩ | ⟨_, h2⟩
    · rw [hf]; exact c.keys i e he (hg hgg)
    · exact c.keys i g h2 hgg
  · rcases hget i g h with ⟨rfl, rfl⟩ | ⟨_, h2⟩ <;> rcases hget k g' h' with ⟨rfl, rfl⟩ | ⟨_, h4⟩
    · rfl
    · exact c.dist _ _ _ _ he h4 (hg hgg) hgg' (by rw [← hf]; exact hk)
    · exact c.dist _ _ _ _ h2 he hgg (hg hgg') (by rw [hk, hf])
    · exact c.dist _ _ _ _ h2 h4 hgg hgg' hk
/-- An entry that is gone. -/
theorem Core.del {es : List Ent} {sl : List Nat} (c : Core es sl) (j : Nat) (f : Ent) (hf : f.grave = true) : Core (es.set j f) sl := by
  have hget : ∀ (i : Nat) (g : Ent), (es.set j f)[i]? = some g → g.grave = false → es[i]? = some g := by
    intro i g h hg
    rw [List.getElem?_set] at h
    split at h
    · split at h
      · rw [← Option.some.inj h, hf] at hg; cases hg
      · cases h
    · exact h
  exact ⟨fun s i hi => by rw [List.length_set]; exact c.inr s i hi, by rw [List.length_set]; exact c.cnt, fun i g h hg => c.probe i g (hget i g h hg) hg, fun i g h hg => c.keys i g (hget i g h hg) hg,
    fun i k g g' h h' hg hg' hk => c.dist i k g g' (hget i g h hg) (hget k g' h' hg') hg hg' hk⟩

theorem Core.nil (n : Nat) : Core [] (List.replicate n 0) := by
  have h0 : ∀ s, (List.replicate n 0).getD s 0 = 0 := fun s => by
    rw [List.getD_eq_getElem?_getD, List.getElem?_replicate]; split <;> rfl
  refine ⟨fun s i h => (by rw [h0] at h; omega), ?_, fun i e h => by simp at h, fun i e h => by simp at h, fun i j e f h => by simp at h⟩
  rw [List.filter_replicate]; simp

/-! ### What is there -/
def cp (l : List Ent) : List Ent := l.filter (fun e => !e.grave)
theorem cp_append (l m : List Ent) : cp (l ++ m) = cp l ++ cp m := List.filter_append ..
/-- How many are there ahead of a place. -/
def cnt (l : List Ent) (at_ : Nat) : Nat := (cp (l.take at_)).length
theorem cp_take (l : List Ent) (a : Nat) : cp (l.take a) = (cp l).take (cnt l a) := by
  have h : cp l = cp (l.take a) ++ cp (l.drop a) := by rw [← cp_append, List.take_append_drop]
  rw [h, cnt, List.take_left']
  rfl
theorem cnt_le (l : List Ent) (a : Nat) : cnt l a ≤ (cp l).length := by
  have h : cp l = cp (l.take a) ++ cp (l.drop a) := by rw [← cp_append, List.take_append_drop]
  rw [h, List.length_append]; unfold cnt; omega

theorem mem_cp {l : List Ent} {e : Ent} (h : e ∈ cp l) : e ∈ l ∧ e.grave = false := by
  have := List.mem_filter.1 h
  exact ⟨this.1, by simpa using this.2⟩
theorem dist_cp {l : List Ent} (h : ∀ (i j : Nat) (e f : Ent), l[i]? = some e → l[j]? = some f → e.grave = false → f.grave = false → e.key = f.key → i = j) : (cp l).Pairwise (fun a b => a.key ≠ b.key) := by
  have h1 : l.Pairwise (fun a b => a.grave = false → b.grave = false → a.key ≠ b.key) := by
    rw [List.pairwise_iff_getElem]
    intro i j hi hj hij ha hb e
    have := h i j _ _ (List.getElem?_eq_getElem hi) (List.getElem?_eq_getElem hj) ha hb e
    omega
  have h2 := h1.filter (fun e => !e.grave)
  rw [List.pairwise_iff_getElem] at h2 ⊢
  intro i j hi hj hij
  exact h2 i j hi hj hij (mem_cp (List.getElem_mem hi)).2 (mem_cp (List.getElem_mem hj)).2

def updE (k v : K3) (f : Int) (e : Ent) : Ent := if isKey k e then { e with val := v, flags := f } else e
theorem updE_grave (k v : K3) (f : Int) (e : Ent) : (updE k v f e).grave = e.grave := by unfold updE; split <;> rfl
theorem cp_upd (k v : K3) (f : Int) (l : List Ent) : cp (l.map (updE k v f)) = (cp l).map (updE k v f) := by
  induction l with
  | nil => rfl
  | cons e l ih =>
    simp only [cp, List.map_cons, List.filter_cons, updE_grave] at ih ⊢
    split
    · rw [List.map_cons, ih]
    · exact ih
/-- Keys that are there are unlike. -/
def Dist (l : List Ent) : Prop := ∀ (i j : Nat) (e f : Ent), l[i]? = some e → l[j]? = some f → e.grave = false → f.grave = false → norm e.key = norm f.key → i = j
theorem Core.dst {es : List Ent} {sl : List Nat} (c : Core es sl) : Dist es := fun i j e f h h' hg hg' hk => c.dist i j e f h h' hg hg' (by rw [← c.keys i e h hg, ← c.keys j f h' hg', hk])
theorem isKey_true {k : K3} {e : Ent} : isKey k e = true ↔ e.grave = false ∧ norm e.key = norm k := by simp [isKey]
theorem set_upd {l : List Ent} (hd : Dist l) (k v : K3) (f : Int) (j : Nat) (e : Ent) (he : l[j]? = some e) (hk : isKey k e = true) : l.set j { e with val := v, flags := f } = l.map (updE k v f) := by
  apply List.ext_getElem?
  intro i
  rw [List.getElem?_set, List.getElem?_map]
  have hj : j < l.length := (List.getElem?_eq_some_iff.1 he).1
  split
  · rename_i h; subst h
    rw [he]; simp [updE, hk, hj]
  · rename_i h
    cases hi : l[i]? with
    | none => rfl
    | some g =>
      have hg : isKey k g = false := by
        cases hg : isKey k g with
        | false => rfl
        | true =>
          rw [isKey_true] at hk hg
          exact absurd (hd j i e g he hi hk.1 hg.1 (by rw [hk.2, hg.2])) h
      simp [updE, hg]
theorem cp_del {l : List Ent} (hd : Dist l) (k : K3) (j : Nat) (e g : Ent) (he : l[j]? = some e) (hk : isKey k e = true) (hg : g.grave = true) (a : Nat) :
    cp ((l.set j g).take a) = (cp (l.take a)).filter (fun e => !isKey k e) := by
  have h1 : ∀ (l : List Ent), Dist l → (∀ (j : Nat) (e : Ent), l[j]? = some e → isKey k e = true → cp (l.set j g) = (cp l).filter (fun e => !isKey k e)) ∧ ((∀ (i : Nat) (e : Ent), l[i]? = some e → isKey k e = false) → (cp l).filter (fun e => !isKey k e) = cp l) := by
    intro l hd
    refine ⟨?_, fun h => ?_⟩
    · induction l with
      | nil => intro j e h; simp at h
      | cons x l ih =>
        have hd' : Dist l := fun i j e f h h' a b c => by
          have := hd (i + 1) (j + 1) e f (by simpa using h) (by simpa using h') a b c
          omega
        intro j e he hk
        cases j with
        | zero =>
          simp at he; subst he
          have hx := (isKey_true.1 hk)
          have hno : ∀ i f, l[i]? = some f → isKey k f = false := fun i f hf => by
            cases h : isKey k f with
            | false => rfl
            | true =>
              have h' := isKey_true.1 h
              have := hd 0 (i + 1) x f rfl (by simpa using hf) hx.1 h'.1 (by rw [hx.2, h'.2])
              omega
          have hl : (cp l).filter (fun e => !isKey k e) = cp l := by
            rw [List.filter_eq_self]
            intro f hf
            have hf' := List.mem_filter.1 hf
            obtain ⟨i, hi⟩ := List.getElem?_of_mem hf'.1
            simp [hno i f hi]
          simp only [List.set_cons_zero, cp, List.filter_cons, hg, hx.1] at hl ⊢
          simp only [Bool.not_true, Bool.false_eq_true, if_false, Bool.not_false, if_true, List.filter_cons, hk]
          exact hl.symm
        | succ j =>
          have hx : isKey k x = false := by
            cases h : isKey k x with
            | false => rfl
            | true =>
              have h' := isKey_true.1 h
              have h2 := isKey_true.1 hk
              have := hd 0 (j + 1) x e rfl he h'.1 h2.1 (by rw [h'.2, h2.2])
              omega
          have := ih hd' j e (by simpa using he) hk
          simp only [List.set_cons_succ, cp, List.filter_cons] at this ⊢
          split
          · rw [List.filter_cons, if_pos (by simp [hx]), this]
          · exact this
    · rw [List.filter_eq_self]
      intro f hf
      have hf' := List.mem_filter.1 hf
      obtain ⟨i, hi⟩ := List.getElem?_of_mem hf'.1
      simp [h i f hi]
  have hda : Dist (l.take a) := fun i j e f h h' => by
    rw [List.getElem?_take] at h h'
    split at h
    · split at h'
      · exact hd i j e f h h'
      · cases h'
    · cases h
  rw [List.take_set]
  rcases Nat.lt_or_ge j a with h | h
  · exact (h1 _ hda).1 j e (by rw [List.getElem?_take, if_pos h]; exact he) hk
  · rw [List.set_eq_of_length_le (by rw [List.length_take]; omega)]
    refine ((h1 _ hda).2 fun i f hf => ?_).symm
    rw [List.getElem?_take] at hf
    split at hf
    · rename_i hi
      cases hb : isKey k f with
      | false => rfl
      | true =>
        have h' := isKey_true.1 hb
        have h2 := isKey_true.1 hk
        have := hd j i e f he hf h2.1 h'.1 (by rw [h'.2, h2.2])
        omega
    · cases hf

end Go.Proofs.YtdeboajjhpecbaaGreatDoor

/- Tables in memory; contract of find. -/
set_option linter.unusedVariables false
set_option linter.unusedSimpArgs false
namespace Go.Proofs.YtdeboajjhpecbaaGreatDoor
open Go.RowKit Go.Sort

def k3C (v : K3) : List Value := [.int .i64 v.1, .int .i64 v.2.1, .string v.2.2]
abbrev VK (v : K3) : Value := VS v.1 v.2.1 v.2.2
def entC (e : Ent) : List Value := k3C e.key ++ k3C e.val ++ [.int .i64 e.flags, .bool e.grave]
def entsC (l : List Ent) : List Value := l.flatMap entC
theorem entC_length (e : Ent) : (entC e).length = 8 := rfl
theorem entsC_length (l : List Ent) : (entsC l).length = l.length * 8 := by
  induction l with
  | nil => rfl
  | cons e l ih => rw [entsC, List.flatMap_cons, List.length_append, entC_length, List.length_cons, show (l.flatMap entC).length = l.length * 8 from ih]; omega
theorem entsC_get (l : List Ent) (i j : Nat) (e : Ent) (he : l[i]? = some e) (hj : j < 8) : (entsC l)[i * 8 + j]? = (entC e)[j]? := by
  induction l generalizing i with
  | nil => simp at he
  | cons x l ih =>
    rw [entsC, List.flatMap_cons]
    cases i with
    | zero =>
      simp at he; subst he
      rw [Nat.zero_mul, Nat.zero_add, List.getElem?_append_left (by rw [entC_length]; exact hj)]
    | succ i =>
      rw [List.getElem?_append_right (by rw [entC_length]; omega), entC_length, show (i + 1) * 8 + j - 8 = i * 8 + j by omega]
      exact ih i (by simpa using he)

def curC (c : Nat × Nat) : Value := .pointer (some ⟨c.1, 0, none⟩)
def natC (n : Nat) : Value := .int .i64 (n : Int)

/-- A table in memory: its block, its rows, its cursors. O: the blocks that are its own. -/
structure TabV (w : World) (T : Nat) (lv sv cv : Value) (es : List Ent) (sl : List Nat) (live : Nat) (cs : List (Nat × Nat)) (O : Nat → Prop) : Prop where
  blk : Blk w T 117 #[lv, sv, .int .i64 (live : Int), cv]
  ents : w.ownsRow 0 173 8 lv es.length (entsC es)
  slots : w.ownsRow 0 3 1 sv sl.length (sl.map natC)
  curs : w.ownsRow 0 80 1 cv cs.length (cs.map curC)
  cur : ∀ c ∈ cs, Blk w c.1 241 #[.pointer (some ⟨T, 0, none⟩), .int .i64 (c.2 : Int)]
  nodup : (cs.map Prod.fst).Nodup
  oT : O T
  oL : ∀ g, lv.ownBlock = some g → O g
  oS : ∀ g, sv.ownBlock = some g → O g
  oC : ∀ g, cv.ownBlock = some g → O g
  oc : ∀ c ∈ cs, O c.1
  oLt : ∀ k, O k → k < w.heap.size

theorem TabV.upd {w w' : World} {T : Nat} {lv sv cv : Value} {es : List Ent} {sl : List Nat} {live : Nat} {cs : List (Nat × Nat)} {O M : Nat → Prop} (h : TabV w T lv sv cv es sl live cs O) (u : Upd w w' M) (hM : ∀ k, O k → ¬ M k) : TabV w' T lv sv cv es sl live cs O :=
  ⟨u.blk h.blk (hM _ h.oT), u.own h.ents (fun k hk => hM k (h.oL k hk)), u.own h.slots (fun k hk => hM k (h.oS k hk)), u.own h.curs (fun k hk => hM k (h.oC k hk)),
   fun c hc => u.blk (h.cur c hc) (hM _ (h.oc c hc)), h.nodup, h.oT, h.oL, h.oS, h.oC, h.oc, fun k hk => Nat.lt_of_lt_of_le (h.oLt k hk) u.size⟩
theorem TabV.below {w w' : World} {T : Nat} {lv sv cv : Value} {es : List Ent} {sl : List Nat} {live : Nat} {cs : List (Nat × Nat)} {O : Nat → Prop} (h : TabV w T lv sv cv es sl live cs O) (b : Below w.heap.size w w') : TabV w' T lv sv cv es sl live cs O :=
  h.upd (M := fun k => w.heap.size ≤ k) (Upd.of_below b (fun k hk => hk)) (fun k hk hM => by have := h.oLt k hk; omega)

theorem TabV.drew {w : World} {T : Nat} {lv sv cv : Value} {es : List Ent} {sl : List Nat} {live : Nat} {cs : List (Nat × Nat)} {O : Nat → Prop} (h : TabV w T lv sv cv es sl live cs O) : TabV w.drew T lv sv cv es sl live cs O :=
  ⟨h.blk, h.ents, h.slots, h.curs, h.cur, h.nodup, h.oT, h.oL, h.oS, h.oC, h.oc, h.oLt⟩

theorem own_shape {w : World} {B : Nat} {t : TypeId} {size n : Nat} {v : Value} {xs : List Value} (h : w.ownsRow B t size v n xs) : ∃ A cap, v = .slice A n cap ∧ (0 < n → ∃ g, A = some ⟨g, 0, none⟩) := by
  rcases h.2 with ⟨rfl, rfl⟩ | ⟨g, cap, cur, rfl, _⟩
  · exact ⟨none, 0, rfl, fun h => by omega⟩
  · exact ⟨_, _, rfl, fun _ => ⟨g, rfl⟩⟩

theorem ownsRow_kind8 {w : World} {B size n : Nat} {v : Value} {xs : List Value} {t : TypeId} (h : w.ownsRow B t size v n xs) : ∀ g, v.ownBlock = some g → ∃ c fz, w.heap[g]? = some (.cells c t fz) := by
  intro g hg
  rcases h.2 with ⟨rfl, _⟩ | ⟨g', cap, cur, rfl, _, hh, _⟩
  · simp [Value.ownBlock] at hg
  · obtain rfl : g' = g := by simpa [Value.ownBlock] using hg
    exact ⟨cur, _, hh⟩

theorem own_own_ne {w : World} {B size n B' size' n' : Nat} {v v' : Value} {xs xs' : List Value} {t t' : TypeId} (h : w.ownsRow B t size v n xs) (h' : w.ownsRow B' t' size' v' n' xs') (ht : t ≠ t') {g : Nat} (hv : v'.ownBlock = some g) : v.ownBlock ≠ some g := by
  intro hg
  obtain ⟨c1, f1, h1⟩ := ownsRow_kind8 h g hg
  obtain ⟨c2, f2, h2⟩ := ownsRow_kind8 h' g hv
  rw [h1] at h2
  exact ht (Obj.cells.inj (Option.some.inj h2)).2.1

theorem own_own_ne_opt {w : World} {B size n B' size' n' : Nat} {v v' : Value} {xs xs' : List Value} {t t' : TypeId} (h : w.ownsRow B t size v n xs) (h' : w.ownsRow B' t' size' v' n' xs') (ht : t ≠ t') {g cap : Nat} {m : Nat} (hv : v = .slice (some ⟨g, 0, none⟩) m cap := by rfl) : v.ownBlock ≠ v'.ownBlock := by
  intro e
  rw [hv] at e
  exact own_own_ne h h' ht e.symm (by rw [hv]; rfl)

theorem TabV.slot {w : World} {T g cap : Nat} {lv cv : Value} {es : List Ent} {sl : List Nat} {live : Nat} {cs : List (Nat × Nat)} {O : Nat → Prop} (h : TabV w T lv (.slice (some ⟨g, 0, none⟩) sl.length cap) cv es sl live cs O) (s : Nat) (hs : s < sl.length) :
    w.cell? ⟨g, s, none⟩ = some (.int .i64 ((sl.getD s 0 : Nat) : Int)) := by
  rw [World.ownsRow.cellAt h.slots s (by omega), List.getElem?_map, List.getElem?_eq_getElem hs]
  simp [natC, List.getD_eq_getElem?_getD, List.getElem?_eq_getElem hs]
theorem TabV.ent {w : World} {T g cap : Nat} {sv cv : Value} {es : List Ent} {sl : List Nat} {live : Nat} {cs : List (Nat × Nat)} {O : Nat → Prop} (h : TabV w T (.slice (some ⟨g, 0, none⟩) es.length cap) sv cv es sl live cs O) (i : Nat) (e : Ent) (he : es[i]? = some e) (j : Nat) (hj : j < 8) :
    w.cell? ⟨g, i * 8 + j, none⟩ = (entC e)[j]? := by
  have hi := (List.getElem?_eq_some_iff.1 he).1
  rw [World.ownsRow.cellAt h.ents (i * 8 + j) (by omega), entsC_get es i j e he hj]

/-- A slot's number. -/
theorem TabV.setSlot {w : World} {T g cap : Nat} {lv cv : Value} {es : List Ent} {sl : List Nat} {live : Nat} {cs : List (Nat × Nat)} {O : Nat → Prop} (h : TabV w T lv (.slice (some ⟨g, 0, none⟩) sl.length cap) cv es sl live cs O) (s x : Nat) :
    TabV (w.setCell ⟨g, s, none⟩ (.int .i64 (x : Int))) T lv (.slice (some ⟨g, 0, none⟩) sl.length cap) cv es (sl.set s x) live cs O := by
  have hst := World.ownsRow.stored h.slots s (.int .i64 (x : Int))
  have hg : (Value.slice (some ⟨g, 0, none⟩) sl.length cap).ownBlock = some g := rfl
  obtain ⟨c1, f1, h1⟩ := ownsRow_kind8 h.slots g hg
  have hne : ∀ {k : Nat} {t : TypeId} {cs : Array Value}, Blk w k t cs → t ≠ 3 → k ≠ g := by
    intro k t cs hb ht e
    subst e
    rw [show w.heap[k]? = _ from hb] at h1
    exact ht (Obj.cells.inj (Option.some.inj h1)).2.1
  refine ⟨h.blk.far (hne h.blk (by decide)) _, h.ents.kept hst.2 (.inr (own_own_ne h.ents h.slots (by decide) hg)), ?_, h.curs.kept hst.2 (.inr (own_own_ne h.curs h.slots (by decide) hg)), fun c hc => (h.cur c hc).far (hne (h.cur c hc) (by decide)) _, h.nodup, h.oT, h.oL, h.oS, h.oC, h.oc, fun k hk => by have := h.oLt k hk; simpa using this⟩
  have := hst.1
  rw [List.length_set, List.map_set]
  exact this
theorem TabV.widen {w : World} {T : Nat} {lv sv cv : Value} {es : List Ent} {sl : List Nat} {live : Nat} {cs : List (Nat × Nat)} {O O' : Nat → Prop} (h : TabV w T lv sv cv es sl live cs O) (h1 : ∀ k, O k → O' k) (h2 : ∀ k, O' k → k < w.heap.size) : TabV w T lv sv cv es sl live cs O' :=
  ⟨h.blk, h.ents, h.slots, h.curs, h.cur, h.nodup, h1 _ h.oT, fun g hg => h1 _ (h.oL g hg), fun g hg => h1 _ (h.oS g hg), fun g hg => h1 _ (h.oC g hg), fun c hc => h1 _ (h.oc c hc), h2⟩

theorem hF_bd (k n : Int) (j : Nat) : 0 ≤ hF k n j ∧ hF k n j < 4294967296 := by
  cases j <;> exact ⟨Int.emod_nonneg _ (by decide), Int.emod_lt_of_pos _ (by decide)⟩
theorem hG_bd (k n : Int) (s : ByteArray) (j : Nat) : 0 ≤ hG k n s j ∧ hG k n s j < 4294967296 := by
  cases j
  · exact hF_bd _ _ _
  · exact ⟨Int.emod_nonneg _ (by decide), Int.emod_lt_of_pos _ (by decide)⟩
theorem hs_bd (v : K3) : (hs v : Int) < 4294967296 := by
  have := hG_bd v.1 v.2.1 v.2.2 v.2.2.size
  unfold hs; omega
theorem hs_eq (v : K3) : hG v.1 v.2.1 v.2.2 v.2.2.size = (hs v : Int) := by
  have := hG_bd v.1 v.2.1 v.2.2 v.2.2.size
  unfold hs; omega

/-- How many slots there may be. -/
def SlotN (n : Nat) : Prop := n = 0 ∨ ∃ p, 3 ≤ p ∧ p ≤ 20 ∧ n = 2 ^ p
theorem slotN_le {n : Nat} (h : SlotN n) : n ≤ 1048576 := by
  rcases h with rfl | ⟨p, _, h2, rfl⟩
  · decide
  · exact Nat.le_trans (Nat.pow_le_pow_right (n := 2) (by decide) h2) (by decide)
theorem mask_at {n : Nat} (h : SlotN n) (h0 : 0 < n) (x : Nat) (hx : (x : Int) < 4294967296) : bits .and .i64 (x : Int) ((n : Int) - 1) = ((x % n : Nat) : Int) := by
  rcases h with rfl | ⟨p, h1, h2, rfl⟩
  · omega
  · have e : (((2 : Nat) ^ p : Nat) : Int) = 2 ^ p := by simp
    have := bits_mask .i64 63 (by decide) (fun n h0 h1 => IntWalk.i64_in n (by omega)) p (by omega) (x : Int) (by omega) (by omega)
    rw [e, this]
    simp

/-- SameZero of two values. -/
theorem veq_norm (a b : K3) : veq (kK a.1) (kN a.1 a.2.1) (kS a.1 a.2.2) (kK b.1) (kN b.1 b.2.1) (kS b.1 b.2.2) = decide (norm a = norm b) := by
  unfold veq norm
  rw [Bool.eq_iff_iff]
  simp only [Bool.and_eq_true, beq_iff_eq, decide_eq_true_eq, Prod.mk.injEq]
  exact ⟨fun ⟨h1, h2, h3⟩ => ⟨h1, h2, ba_ext h3⟩, fun ⟨h1, h2, h3⟩ => ⟨h1, h2, by rw [h3]⟩⟩
theorem same_n (a b : K3) (r : Bool) (hr : Hid (r = decide (norm a = norm b))) (w : World) : Calls Tryz.prog 88 #[VK a, VK b] w (Ret (.bool r) w) := by
  rw [hr.out, ← veq_norm]
  exact samezero_any _ _ _ _ _ _ _ _ _ _ _ _ w (key_all _ _ _) (key_all _ _ _)
theorem hash_n (a : K3) (H : Int) (hH : Hid ((hs (norm a) : Int) = H)) (w : World) (h : a.2.2.size ≤ 4000) : Calls Tryz.prog 87 #[VK a] w (Ret (.int .u32 H) w) := by
  have := hash_any a.1 a.2.1 a.2.2 _ _ _ w (by unfold kS; split; exact Nat.zero_le _; exact h) (key_all _ _ _)
  rw [← hH.out, ← hs_eq]
  exact this

/-- What is known of the steps that find has taken. -/
def Gone (es : List Ent) (sl : List Nat) (k : K3) (L H d : Nat) : Prop := ∀ d', d' < d → sl.getD (pr L H d') 0 ≠ 0 ∧ ∀ (i : Nat) (e : Ent), sl.getD (pr L H d') 0 = i + 1 → es[i]? = some e → isKey k e = false
theorem find_next {es : List Ent} {sl : List Nat} {k : K3} {L H d d0 s j : Nat} {e : Ent} (h : Gone es sl k L H d) (hd0 : d0 < L) (hz0 : sl.getD (pr L H d0) 0 = 0) (hs : pr L H d = s) (hj : sl.getD s 0 = j + 1) (he : es[j]? = some e) (hk : isKey k e = false) :
    Gone es sl k L H (d + 1) ∧ d + 1 < L := by
  have hnz : Gone es sl k L H (d + 1) := by
    intro d' hd'
    rcases Nat.lt_or_ge d' d with h5 | h5
    · exact h d' h5
    · obtain rfl : d' = d := by omega
      rw [hs, hj]
      refine ⟨by omega, fun i f h6 h7 => ?_⟩
      obtain rfl : i = j := by omega
      rw [he] at h7
      obtain rfl := Option.some.inj h7
      exact hk
  refine ⟨hnz, ?_⟩
  rcases Nat.lt_or_ge d d0 with h5 | h5
  · omega
  · exact absurd hz0 (hnz d0 (by omega)).1
theorem find_meas {L H d s : Nat} (h : d + 1 < L) (hs : pr L H d = s) : L - (pr L H (d + 1) + L - H % L) % L < L - (s + L - H % L) % L := by
  rw [← hs, pr_back h, pr_back (by omega)]; omega

def FindP (es : List Ent) (sl : List Nat) (k : K3) (w : World) (e : Ending) (w' : World) : Prop :=
  ∃ (i : Int) (s : Nat), e = .returned (.tuple #[.int .i64 i, .int .i64 (s : Int)]) ∧ FindR es sl k i s ∧ Below w.heap.size w w'

set_option maxHeartbeats 8000000 in
set_option maxRecDepth 100000 in
theorem find_any (T : Nat) (lv sv cv : Value) (es : List Ent) (sl : List Nat) (live : Nat) (cs : List (Nat × Nat)) (O : Nat → Prop) (k : K3) (w : World) (h : TabV w T lv sv cv es sl live cs O) (c : Core es sl) (hn : SlotN sl.length) (hload : sl.length = 0 ∨ es.length < sl.length) (hk : k.2.2.size ≤ 4000) :
    Calls Tryz.prog 81 #[.pointer (some ⟨T, 0, none⟩), VK k] w (FindP es sl k w) := by
  obtain ⟨A, capS, rfl, hA⟩ := own_shape h.slots
  obtain ⟨AL, capL, rfl, hAL⟩ := own_shape h.ents
  obtain ⟨L, hL⟩ : ∃ L, sl.length = L := ⟨_, rfl⟩
  have h2 := (h.below ((Below.refl _ w).alloc (Nat.le_refl _) (SC k.1 k.2.1 k.2.2)))
  have x1 : (w.alloc (SC k.1 k.2.1 k.2.2)).cell? ⟨T, 1, none⟩ = some (.slice A L capS) := by rw [h2.blk.cell, ← hL]; rfl
  rw [hL] at hA
  have HL := Lib.hid hL
  clear hL
  by_cases h0 : L = 0
  · have t0 : ((L : Int) == 0) = true := by simp [h0]
    have H0 := Lib.hid h0
    clear h0
    rw [HL.out] at h h2
    go_enter Tryz.func81, Tryz.ntmps81
    go_wp2
    go_ret2
    exact ⟨-1, 0, rfl, .none0 (by rw [HL.out, H0.out]), (Below.refl _ _).alloc (Nat.le_refl _) _⟩
  · have t0 : ((L : Int) == 0) = false := by rw [beq_eq_false_iff_ne]; omega
    obtain ⟨g, rfl⟩ := hA (by omega)
    obtain ⟨H, hH⟩ : ∃ H, hs (norm k) = H := ⟨_, rfl⟩
    have hHb := hs_bd (norm k)
    rw [hH] at hHb
    obtain ⟨X, hX⟩ : ∃ X : Int, (H : Int) = X := ⟨_, rfl⟩
    have HH : Hid ((hs (norm k) : Int) = X) := Lib.hid (by rw [hH, hX])
    have HX : Hid ((H : Int) = X) := Lib.hid hX
    rw [HL.out] at hload
    obtain ⟨d0, hd0, hz0⟩ := c.free (by rw [HL.out]; rcases hload with h' | h' <;> omega) H
    have hL9 := slotN_le hn
    rw [HL.out] at hn hd0 hz0 hL9
    have hm := mask_at hn (by omega) H hHb
    have hmk : ∀ s : Nat, s < L → bits .and .i64 (((s + 1 : Nat) : Nat) : Int) ((L : Int) - 1) = (((s + 1) % L : Nat) : Int) := fun s hs => mask_at hn (by omega) (s + 1) (by omega)
    have hpr0 : H % L = pr L H 0 := by unfold pr; rw [Nat.add_zero]
    rw [hpr0, hX] at hm
    have X0 : 0 ≤ X := by omega
    have X1 : X < 4294967296 := by omega
    have HL9 := Lib.hid hL9
    have Hhm := Lib.hid hmk
    have HES := Lib.hid (show es.length ≤ 1048576 by rcases hload with h' | h' <;> omega)
    have hwr : wrap64 ((L : Int) - 1) = (L : Int) - 1 := by unfold wrap64; omega
    have hpl : ∀ d, pr L H d < L := fun d => pr_lt H d (by omega)
    have HC := Lib.hid c
    have HN := Lib.hid hn
    have b0 : Below w.heap.size w (w.alloc (SC k.1 k.2.1 k.2.2)) := (Below.refl _ _).alloc (Nat.le_refl _) _
    have kx := Blk.new w 30 #[.int .i64 k.1, .int .i64 k.2.1, .string k.2.2]
    have hzz : (w.alloc (SC k.1 k.2.1 k.2.2)).heap.size = w.heap.size + 1 := by simp
    have HZ := Lib.hid hzz
    clear hzz hH hpr0 hn c hload h h0 hHb hX hL9 hmk
    rw [HL.out] at h2
    have H2 := Lib.hid h2
    clear h2
    go_enter Tryz.func81, Tryz.ntmps81
    go_wp2_with fail
    have h2 := H2.out
    have hzz := HZ.out
    generalize w.alloc (SC k.1 k.2.1 k.2.2) = w0 at *
    clear H2 HZ
    refine (hash_n k X HH _ hk).mono ?_
    rintro e w1 ⟨rfl, b1⟩
    have bb := b0.trans (b1.mono (by omega))
    have h3 := h2.below b1
    have ky := kx.below b1 kx.lt
    have z1 := Nat.lt_of_lt_of_le kx.lt b1.size
    clear b1 kx x1 h2 hzz
    rw [← HL.out] at h3
    have hwx : IntKind.i64.wrap X = X := IntWalk.i64_in _ (by omega)
    go_wp2_with fail
    go_loopw [7] (fun sx wr => ∃ d : Nat, d < L ∧ sx = .int .i64 (pr L H d : Nat) ∧ Gone es sl k L H d ∧ Below w1.heap.size w1 wr) (fun sx _ => L - ((intOf sx).toNat + L - H % L) % L)
    case atStart => exact ⟨0, by omega, rfl, fun d' hd' => by omega, Below.refl _ _⟩
    case round =>
      obtain ⟨d, hd, rfl, hno, hbr⟩ := hrel
      have hS := hpl d
      have h4 := h3.below hbr
      have hmes := pr_back (h := H) hd
      have hsuc := pr_succ (n := L) H d
      have hst := Hhm.out (pr L H d) hS
      rw [← hsuc] at hst
      have c1 : wr.cell? ⟨T, 1, none⟩ = some (.slice (some ⟨g, 0, none⟩) L capS) := by rw [h4.blk.cell, ← HL.out]; rfl
      have c0 : wr.cell? ⟨T, 0, none⟩ = some (.slice AL es.length capL) := by rw [h4.blk.cell]; rfl
      have cs0 := h4.slot (pr L H d) (by rw [HL.out]; exact hS)
      have Hno := Lib.hid hno
      have Hmes := Lib.hid hmes
      obtain ⟨s, hs⟩ : ∃ s, pr L H d = s := ⟨_, rfl⟩
      have HSS := Lib.hid hs
      rw [hs] at hS cs0 hst ⊢
      have Hsuc := Lib.hid hsuc
      obtain ⟨n, hnn⟩ : ∃ n, sl.getD s 0 = n := ⟨_, rfl⟩
      rw [hnn] at cs0
      have HNN := Lib.hid hnn
      have s0 : (0 : Int) ≤ (s : Int) := by omega
      have s1 : (s : Int) < (L : Int) := by omega
      clear hno hmes hsuc hs hnn
      cases n with
      | zero =>
        have cz : wr.cell? ⟨g, s, none⟩ = some (.int .i64 0) := cs0
        clear cs0 hst
        go_wp2
        go_ret2
        refine ⟨-1, s, rfl, ?_, bb.trans (hbr.mono bb.size)⟩
        have hz : sl.getD (pr L H d) 0 = 0 := by rw [HSS.out]; exact HNN.out
        have hH2 : hs (norm k) = H := by have := HH.out; have := HX.out; omega
        have hno2 : ∀ (i : Nat) (e : Ent), es[i]? = some e → isKey k e = false :=
          HC.out.nokey (d := d) (by rw [HL.out]; exact hd) (by rw [HL.out, hH2]; exact hz) (fun d' hd' i e h5 h6 => (Hno.out d' hd').2 i e (by rw [HL.out, hH2] at h5; exact h5) h6)
        have := FindR.none (es := es) (sl := sl) (k := k) d (by rw [HL.out]; exact hd) (by rw [HL.out, hH2]; exact hz) (fun d' hd' => by rw [HL.out, hH2]; exact (Hno.out d' hd').1) hno2
        rw [HL.out, hH2, HSS.out] at this
        exact this
      | succ j =>
        have hjl := HC.out.inr s j HNN.out
        obtain ⟨gL, rfl⟩ := hAL (by omega)
        obtain ⟨e, he⟩ : ∃ e, es[j]? = some e := ⟨_, List.getElem?_eq_getElem hjl⟩
        have e0 : wr.cell? ⟨gL, j * 8, none⟩ = some (.int .i64 e.key.1) := h4.ent j e he 0 (by decide)
        have e1 : wr.cell? ⟨gL, j * 8 + 1, none⟩ = some (.int .i64 e.key.2.1) := h4.ent j e he 1 (by decide)
        have e2 : wr.cell? ⟨gL, j * 8 + 2, none⟩ = some (.string e.key.2.2) := h4.ent j e he 2 (by decide)
        have e7 : wr.cell? ⟨gL, j * 8 + 7, none⟩ = some (.bool e.grave) := h4.ent j e he 7 (by decide)
        have kz := ky.below hbr z1
        have y0 : wr.cell? ⟨w.heap.size, 0, none⟩ = some (.int .i64 k.1) := by rw [kz.cell]; rfl
        have y1 : wr.cell? ⟨w.heap.size, 1, none⟩ = some (.int .i64 k.2.1) := by rw [kz.cell]; rfl
        have y2 : wr.cell? ⟨w.heap.size, 2, none⟩ = some (.string k.2.2) := by rw [kz.cell]; rfl
        have cj : wr.cell? ⟨g, s, none⟩ = some (.int .i64 ((j : Int) + 1)) := cs0
        have hj1 : (j : Int) < (es.length : Int) := by omega
        have hj0 : (0 : Int) ≤ (j : Int) := by omega
        have hjw : wrap64 (j : Int) = (j : Int) := by have := HES.out; unfold wrap64; omega
        have HE := Lib.hid he
        clear cs0 he
        have Q0 := fun d os => cell_regrown e0 d os
        have Q1 := fun d os => cell_regrown e1 d os
        have Q2 := fun d os => cell_regrown e2 d os
        have Q7 := fun d os => cell_regrown e7 d os
        have R0 := fun d os => cell_regrown y0 d os
        have R1 := fun d os => cell_regrown y1 d os
        have R2 := fun d os => cell_regrown y2 d os
        obtain ⟨gr, hgr⟩ : ∃ b, e.grave = b := ⟨_, rfl⟩
        obtain ⟨sm, hsm⟩ : ∃ b, b = decide (norm e.key = norm k) := ⟨_, rfl⟩
        have Hsm := Lib.hid hsm
        have Hgr := Lib.hid hgr
        have D := fun d os => Calls.regrown_of (same_n e.key k sm Hsm (grow (redrawn wr d) os))
        rw [hgr] at Q7 e7
        clear hsm hgr e0 e1 e2 y0 y1 y2
        go_wp2_with fail
        go_cut [60] (fun s60 wx => s60 = .bool (!gr && sm) ∧ Below wr.heap.size wr wx)
        case first =>
          cases gr
          all_goals
            refine wp_region_quiet_below (by kernel_rfl) (by kernel_rfl) ?_
            repeat (first | go_big_quiet_step (with_reducible exact D _ _) | quiet_step (with_reducible exact D _ _))
            refine wpQuiet_nil ?_
            intro _ hw'
            obtain ⟨⟨dq, osq⟩, hw''⟩ := hw'
            subst hw''
            go_wp2_with fail
            go_meet
            exact ⟨rfl, below_regrown wr dq osq⟩
        case rest =>
        obtain ⟨rfl, hbq⟩ := hcut
        have bq2 := hbr.trans (hbq.mono hbr.size)
        have hst2 : bits .and .i64 ((s : Int) + 1) ((L : Int) - 1) = ((pr L H (d + 1) : Nat) : Int) := hst
        have hkey : isKey k e = (!gr && sm) := by rw [isKey, Hgr.out, Hsm.out]
        have HK := Lib.hid hkey
        have hsw : wrap64 ((s : Int) + 1) = (s : Int) + 1 := by have := HL9.out; unfold wrap64; omega
        clear D Q0 Q1 Q2 Q7 R0 R1 R2 hst hkey hbq
        cases hb : (!gr && sm) with
        | true =>
          have HB := Lib.hid hb
          clear hb
          go_wp2
          go_ret2
          refine ⟨(j : Int), s, by rw [hjw]; rfl, ?_, bb.trans (bq2.mono bb.size)⟩
          exact FindR.some s j e HE.out (by rw [HK.out, HB.out])
        | false =>
          have HX2 := Lib.hid (find_next Hno.out hd0 hz0 HSS.out HNN.out HE.out (by rw [HK.out, hb]))
          clear hb
          go_wp2
          go_roundw
          case rel => exact ⟨d + 1, HX2.out.2, rfl, HX2.out.1, bq2⟩
          case measure =>
            have := find_meas HX2.out.2 HSS.out
            simpa [intOf] using this
end Go.Proofs.YtdeboajjhpecbaaGreatDoor
