/- OtP: several texts in one. -/
import Derived.Test.YtmimnaaofpkndaaDoorTxt
import Derived.Test.YtmimnaaofpkndaaDoorWld
import Derived.Laws.StructEq
import Derived.Laws.BitsLemmas
import Derived.OwnWalk
import Derived.Lib.QuietBelow
import Derived.Deep.CutBlock
/- Values, keys of tables, their hashes; seeds of values. -/
set_option linter.unusedVariables false
set_option linter.unusedSimpArgs false
namespace Go.Proofs.YtmimnaaofpkndaaDoor
open Go.RowKit Go.Sort
/-- One value comes back; nothing that was there has turned. -/
def Ret (v : Value) (w : World) (e : Ending) (w' : World) : Prop := e = .returned v ∧ Below w.heap.size w w'
/-- A value: kind, number, units. -/
abbrev VS (k n : Int) (s : ByteArray) : Value := .agg #[.int .i64 k, .int .i64 n, .string s]
abbrev SC (k n : Int) (s : ByteArray) : Obj := .cells #[.int .i64 k, .int .i64 n, .string s] 34
theorem ba_ext {a b : ByteArray} (h : a.toList = b.toList) : a = b := by
  have : a.data.toList = b.data.toList := by rw [← ByteArray.toList_eq, ← ByteArray.toList_eq, h]
  exact ByteArray.ext (Array.toList_inj.1 this)
set_option maxHeartbeats 400000 in
theorem key_any (k n : Int) (s : ByteArray) (w : World) (h : (k == 6) = false) : Calls Tryd.prog 54 #[VS k n s] w (Ret (VS k n s) w) := by
  go_enter Tryd.func54, Tryd.ntmps54
  go_wp2
  exact bodyPost_ret (v := VS k n s) (by simp [results, Tryd.results54, go_sem]) rfl ⟨rfl, ((Below.refl _ _).alloc (Nat.le_refl _) _).alloc (by simp) _⟩
set_option maxHeartbeats 400000 in
theorem key_nz (n : Int) (s : ByteArray) (w : World) : Calls Tryd.prog 54 #[VS 6 n s] w (Ret (VS 3 0 ⟨#[]⟩) w) := by
  go_enter Tryd.func54, Tryd.ntmps54
  go_wp2
  exact bodyPost_ret (v := VS 3 0 ⟨#[]⟩) (by simp [results, Tryd.results54, go_sem]) rfl ⟨rfl, ((Below.refl _ _).alloc (Nat.le_refl _) _).alloc (by simp) _⟩
/-- Are two values the same? -/
def veq (k n : Int) (s : ByteArray) (k' n' : Int) (s' : ByteArray) : Bool := k == k' && (n == n' && s.toList == s'.toList)
/-- The eight bytes of a number, and what Hash comes to: over a value's kind and number, then over the bytes of its units. -/
def dig (n : Int) : Nat → Int
  | 0 => IntKind.u64.wrap n
  | 1 => IntKind.u64.wrap n / 256
  | 2 => IntKind.u64.wrap n / 65536
  | 3 => IntKind.u64.wrap n / 16777216
  | 4 => IntKind.u64.wrap n / 4294967296
  | 5 => IntKind.u64.wrap n / 1099511627776
  | 6 => IntKind.u64.wrap n / 281474976710656
  | _ => IntKind.u64.wrap n / 72057594037927936
def hF (k n : Int) : Nat → Int
  | 0 => bits .xor .u32 2166136261 (k % 4294967296) * 16777619 % 4294967296
  | j + 1 => bits .xor .u32 (hF k n j) (bits .and .u64 (dig n j) 255 % 4294967296) * 16777619 % 4294967296
def byteZ (s : ByteArray) (j : Nat) : Int := if h : j < s.size then (s[j].toNat : Int) else 0
def hG (k n : Int) (s : ByteArray) : Nat → Int
  | 0 => hF k n 8
  | j + 1 => bits .xor .u32 (hG k n s j) (byteZ s j % 4294967296) * 16777619 % 4294967296
set_option maxHeartbeats 4000000 in
set_option maxRecDepth 100000 in
theorem hash_any (k n : Int) (s : ByteArray) (k1 n1 : Int) (s1 : ByteArray) (w : World) (hs : s1.size ≤ 4000) (C : ∀ W, Calls Tryd.prog 54 #[VS k n s] W (Ret (VS k1 n1 s1) W)) : Calls Tryd.prog 75 #[VS k n s] w (Ret (.int .u32 (hG k1 n1 s1 s1.size)) w) := by
  have HC := Lib.hid C
  clear C
  go_enter Tryd.func75, Tryd.ntmps75
  go_wp2_with fail
  have bb := ((Below.refl w.heap.size w).alloc (Nat.le_refl _) (.cells #[.int .i64 k, .int .i64 n, .string s] 34))
  have kx := Blk.new w 34 #[.int .i64 k, .int .i64 n, .string s]
  refine (HC.out _).mono ?_
  rintro e w1 ⟨rfl, b1⟩
  have kx := kx.below b1 kx.lt
  have bb := bb.trans (b1.mono bb.size)
  have x0 : w1.cell? ⟨w.heap.size, 0, none⟩ = some (.int .i64 k) := by rw [kx.cell]; rfl
  have x1 : w1.cell? ⟨w.heap.size, 1, none⟩ = some (.int .i64 n) := by rw [kx.cell]; rfl
  have x2 : w1.cell? ⟨w.heap.size, 2, none⟩ = some (.string s) := by rw [kx.cell]; rfl
  have z0 := kx.frozen 0
  have z1 := kx.frozen 1
  have z2 := kx.frozen 2
  have lx := kx.lt
  go_upto_region 2 with fail
  have kx : Blk _ w.heap.size 34 #[.int .i64 k1, .int .i64 n1, .string s1] := ((kx.set_ 0 (.int .i64 k1)).set_ 1 (.int .i64 n1)).set_ 2 (.string s1)
  have bb := ((bb.setCell (p := ⟨w.heap.size, 0, none⟩) (Nat.le_refl _) (.int .i64 k1)).setCell (p := ⟨w.heap.size, 1, none⟩) (Nat.le_refl _) (.int .i64 n1)).setCell (p := ⟨w.heap.size, 2, none⟩) (Nat.le_refl _) (.string s1)
  clear x0 x1 x2 z0 z1 z2 lx
  generalize ((w1.setCell ⟨w.heap.size, 0, none⟩ (.int .i64 k1)).setCell ⟨w.heap.size, 1, none⟩ (.int .i64 n1)).setCell ⟨w.heap.size, 2, none⟩ (.string s1) = V at *
  have x0 : V.cell? ⟨w.heap.size, 0, none⟩ = some (.int .i64 k1) := by rw [kx.cell]; rfl
  have x1 : V.cell? ⟨w.heap.size, 1, none⟩ = some (.int .i64 n1) := by rw [kx.cell]; rfl
  have x2 : V.cell? ⟨w.heap.size, 2, none⟩ = some (.string s1) := by rw [kx.cell]; rfl
  have lx := kx.lt
  go_wp2_with fail
  go_loopw [3, 4] (fun h i wr => ∃ j : Nat, j ≤ 8 ∧ h = .int .u32 (hF k1 n1 j) ∧ i = .int .i64 (8 * (j : Int)) ∧ wr = V) (fun _ i _ => 64 - (intOf i).toNat)
  case atStart => exact ⟨0, by decide, rfl, rfl, rfl⟩
  case round =>
    obtain ⟨j, hj, rfl, rfl, rfl⟩ := hrel
    by_cases hlt : j < 8
    · have hcc : j = 0 ∨ j = 1 ∨ j = 2 ∨ j = 3 ∨ j = 4 ∨ j = 5 ∨ j = 6 ∨ j = 7 := by omega
      have hst : ∀ h, hF k1 n1 j = h → hF k1 n1 (j + 1) = bits .xor .u32 h (bits .and .u64 (dig n1 j) 255 % 4294967296) * 16777619 % 4294967296 := fun h e => by rw [← e]; rfl
      generalize hh : hF k1 n1 j = h at *
      have hst := Lib.hid (hst h rfl)
      clear hh
      rcases hcc with rfl | rfl | rfl | rfl | rfl | rfl | rfl | rfl
      · go_wp2
        go_roundw
        case rel => exact ⟨1, by decide, by rw [hst.out]; rfl, rfl, trivial⟩
        case measure => simp [intOf]
      · go_wp2
        go_roundw
        case rel => exact ⟨2, by decide, by rw [hst.out]; rfl, rfl, trivial⟩
        case measure => simp [intOf]
      · go_wp2
        go_roundw
        case rel => exact ⟨3, by decide, by rw [hst.out]; rfl, rfl, trivial⟩
        case measure => simp [intOf]
      · go_wp2
        go_roundw
        case rel => exact ⟨4, by decide, by rw [hst.out]; rfl, rfl, trivial⟩
        case measure => simp [intOf]
      · go_wp2
        go_roundw
        case rel => exact ⟨5, by decide, by rw [hst.out]; rfl, rfl, trivial⟩
        case measure => simp [intOf]
      · go_wp2
        go_roundw
        case rel => exact ⟨6, by decide, by rw [hst.out]; rfl, rfl, trivial⟩
        case measure => simp [intOf]
      · go_wp2
        go_roundw
        case rel => exact ⟨7, by decide, by rw [hst.out]; rfl, rfl, trivial⟩
        case measure => simp [intOf]
      · go_wp2
        go_roundw
        case rel => exact ⟨8, by decide, by rw [hst.out]; rfl, rfl, trivial⟩
        case measure => simp [intOf]
    · have hj8 : j = 8 := by omega
      subst hj8
      have T2 : (8 * ((8 : Nat) : Int)) = 64 := rfl
      go_wp2_with fail
      go_loopw [3, 31] (fun h i wr2 => ∃ j : Nat, j ≤ s1.size ∧ h = .int .u32 (hG k1 n1 s1 j) ∧ i = .int .i64 (j : Int) ∧ wr2 = wr) (fun _ i _ => s1.size - (intOf i).toNat)
      case atStart => exact ⟨0, Nat.zero_le _, rfl, rfl, rfl⟩
      case round =>
        obtain ⟨j, hj, rfl, rfl, rfl⟩ := hrel
        by_cases hlt : j < s1.size
        · have hst : ∀ h, hG k1 n1 s1 j = h → hG k1 n1 s1 (j + 1) = bits .xor .u32 h ((s1[j].toNat : Int) % 4294967296) * 16777619 % 4294967296 := fun h e => by
            rw [← e]; show bits .xor .u32 (hG k1 n1 s1 j) (byteZ s1 j % 4294967296) * 16777619 % 4294967296 = _
            unfold byteZ; rw [dif_pos hlt]
          generalize hh : hG k1 n1 s1 j = h at *
          have hst := Lib.hid (hst h rfl)
          clear hh
          have T0 : (0 : Int) ≤ (j : Int) := by omega
          have T1 : (j : Int) < (s1.size : Int) := by omega
          go_wp2
          go_roundw
          case rel => exact ⟨j + 1, by omega, by rw [hst.out], by go_num, trivial⟩
          case measure => simp [intOf]; omega
        · have hj8 : j = s1.size := by omega
          subst hj8
          have T2 : decide ((s1.size : Int) < (s1.size : Int)) = false := by simp
          go_wp2
          go_ret
          exact ⟨rfl, bb⟩
set_option maxHeartbeats 4000000 in
theorem samezero_any (k n : Int) (s : ByteArray) (k' n' : Int) (s' : ByteArray) (p q : Int) (r : ByteArray) (p' q' : Int) (r' : ByteArray) (w : World) (C : ∀ W, Calls Tryd.prog 54 #[VS k n s] W (Ret (VS p q r) W)) (C' : ∀ W, Calls Tryd.prog 54 #[VS k' n' s'] W (Ret (VS p' q' r') W)) :
    Calls Tryd.prog 76 #[VS k n s, VS k' n' s'] w (Ret (.bool (veq p q r p' q' r')) w) := by
  have HC := Lib.hid C
  have HC' := Lib.hid C'
  clear C C'
  obtain ⟨g1, hg1⟩ : ∃ b, (p == p') = b := ⟨_, rfl⟩
  obtain ⟨g2, hg2⟩ : ∃ b, (q == q') = b := ⟨_, rfl⟩
  obtain ⟨g3, hg3⟩ : ∃ b, (r.toList == r'.toList) = b := ⟨_, rfl⟩
  have hv : veq p q r p' q' r' = (g1 && (g2 && g3)) := by unfold veq; rw [hg1, hg2, hg3]
  rw [hv]
  clear hv
  go_enter Tryd.func76, Tryd.ntmps76
  go_upto_region 1 with fail
  have kx := (Blk.new w 34 #[.int .i64 k, .int .i64 n, .string s]).alloc (.cells #[.int .i64 k', .int .i64 n', .string s'] 34)
  have ky := Blk.new (w.alloc (.cells #[.int .i64 k, .int .i64 n, .string s] 34)) 34 #[.int .i64 k', .int .i64 n', .string s']
  rw [World.size_alloc] at ky
  have bb := ((Below.refl w.heap.size w).alloc (Nat.le_refl _) (.cells #[.int .i64 k, .int .i64 n, .string s] 34)).alloc (by simp) (.cells #[.int .i64 k', .int .i64 n', .string s'] 34)
  generalize ((w.alloc (.cells #[.int .i64 k, .int .i64 n, .string s] 34)).alloc (.cells #[.int .i64 k', .int .i64 n', .string s'] 34)) = V at *
  have x0 : V.cell? ⟨w.heap.size, 0, none⟩ = some (.int .i64 k) := by rw [kx.cell]; rfl
  have x1 : V.cell? ⟨w.heap.size, 1, none⟩ = some (.int .i64 n) := by rw [kx.cell]; rfl
  have x2 : V.cell? ⟨w.heap.size, 2, none⟩ = some (.string s) := by rw [kx.cell]; rfl
  have y0 : V.cell? ⟨w.heap.size + 1, 0, none⟩ = some (.int .i64 k') := by rw [ky.cell]; rfl
  have y1 : V.cell? ⟨w.heap.size + 1, 1, none⟩ = some (.int .i64 n') := by rw [ky.cell]; rfl
  have y2 : V.cell? ⟨w.heap.size + 1, 2, none⟩ = some (.string s') := by rw [ky.cell]; rfl
  have Qx0 := fun d os => cell_regrown x0 d os
  have Qx1 := fun d os => cell_regrown x1 d os
  have Qx2 := fun d os => cell_regrown x2 d os
  have Qy0 := fun d os => cell_regrown y0 d os
  have Qy1 := fun d os => cell_regrown y1 d os
  have Qy2 := fun d os => cell_regrown y2 d os
  have lx := kx.lt
  have ly := ky.lt
  clear x0 x1 x2 y0 y1 y2 kx ky
  have up := fun d os => bb.trans ((below_regrown V d os).mono bb.size)
  have D1 := fun d os => Calls.regrown_of (HC.out (grow (redrawn V d) os))
  have D2 := fun d os => Calls.regrown_of (HC'.out (grow (redrawn V d) os))
  cases g1 <;> cases g2 <;> cases g3
  all_goals
    refine wp_region_quiet_below (by kernel_rfl) (by kernel_rfl) ?_
    repeat (first | go_big_quiet_step (first | with_reducible exact D1 _ _ | with_reducible exact D2 _ _) | quiet_step (first | with_reducible exact D1 _ _ | with_reducible exact D2 _ _))
    refine wpQuiet_nil ?_
    intro _ hw'
    obtain ⟨⟨dq, osq⟩, hw''⟩ := hw'
    subst hw''
    have be := up dq osq
    clear D1 D2 up Qx0 Qx1 Qx2 Qy0 Qy1 Qy2
    go_wp2
    go_ret
    exact ⟨by simp [hg1, hg2, hg3], be⟩
/-- A value as a key: -0 as 0. -/
def kK (k : Int) : Int := if k == 6 then 3 else k
def kN (k n : Int) : Int := if k == 6 then 0 else n
def kS (k : Int) (s : ByteArray) : ByteArray := if k == 6 then ⟨#[]⟩ else s
theorem key_all (k n : Int) (s : ByteArray) (W : World) : Calls Tryd.prog 54 #[VS k n s] W (Ret (VS (kK k) (kN k n) (kS k s)) W) := by
  unfold kK kN kS
  by_cases h : (k == 6) = true
  · rw [if_pos h, if_pos h, if_pos h]
    obtain rfl : k = 6 := by simpa using h
    exact key_nz n s W
  · rw [if_neg h, if_neg h, if_neg h]
    exact key_any k n s W (by simpa using h)
end Go.Proofs.YtmimnaaofpkndaaDoor

/- Tables: the plain part. -/
set_option linter.unusedVariables false
set_option linter.unusedSimpArgs false
namespace Go.Proofs.YtmimnaaofpkndaaDoor
/-- A value: kind, number, units. -/
abbrev K3 := Int × Int × ByteArray
def norm (v : K3) : K3 := (kK v.1, kN v.1 v.2.1, kS v.1 v.2.2)
theorem norm_norm (v : K3) : norm (norm v) = norm v := by
  obtain ⟨k, n, s⟩ := v
  unfold norm kK kN kS
  by_cases h : (k == 6) = true
  · simp [h]
  · have : k ≠ 6 := by simpa using h
    simp [this]
/-- A key's hash. -/
def hs (v : K3) : Nat := (hG v.1 v.2.1 v.2.2 v.2.2.size).toNat
structure Ent where
  key : K3
  val : K3
  flags : Int
  grave : Bool
def isKey (k : K3) (e : Ent) : Bool := !e.grave && decide (norm e.key = norm k)
def grave0 : Ent := ⟨(0, 0, ⟨#[]⟩), (0, 0, ⟨#[]⟩), 0, true⟩
/-- The slot that a key comes to with so many steps. -/
def pr (n h d : Nat) : Nat := (h + d) % n
theorem pr_lt {n : Nat} (h d : Nat) (hn : 0 < n) : pr n h d < n := Nat.mod_lt _ hn
theorem pr_eq {n h d : Nat} (hd : d < n) : pr n h d = if h % n + d < n then h % n + d else h % n + d - n := by
  have h1 : h % n < n := Nat.mod_lt _ (by omega)
  unfold pr
  rw [← Nat.mod_add_mod]
  split
  · rename_i h2; exact Nat.mod_eq_of_lt h2
  · rename_i h2; rw [Nat.mod_eq_sub_mod (by omega), Nat.mod_eq_of_lt (by omega)]
theorem pr_all {n : Nat} (h s : Nat) (hs : s < n) : ∃ d, d < n ∧ pr n h d = s := by
  have h1 : h % n < n := Nat.mod_lt _ (by omega)
  rcases Nat.lt_or_ge s (h % n) with h2 | h2
  · refine ⟨s + n - h % n, by omega, ?_⟩
    rw [pr_eq (by omega)]; split <;> omega
  · refine ⟨s - h % n, by omega, ?_⟩
    rw [pr_eq (by omega)]; split <;> omega
theorem pr_back {n h d : Nat} (hd : d < n) : (pr n h d + n - h % n) % n = d := by
  have h1 : h % n < n := Nat.mod_lt _ (by omega)
  rw [pr_eq hd]
  split
  · rw [show h % n + d + n - h % n = d + n by omega, Nat.add_mod_right, Nat.mod_eq_of_lt hd]
  · rw [show h % n + d - n + n - h % n = d by omega, Nat.mod_eq_of_lt hd]
theorem pr_succ {n : Nat} (h d : Nat) : pr n h (d + 1) = (pr n h d + 1) % n := by
  unfold pr; rw [Nat.mod_add_mod, Nat.add_assoc]
/-- Slots that serve entries. -/
structure Core (es : List Ent) (sl : List Nat) : Prop where
  inr : ∀ s i, sl.getD s 0 = i + 1 → i < es.length
  cnt : (sl.filter (· != 0)).length ≤ es.length
  probe : ∀ (i : Nat) (e : Ent), es[i]? = some e → e.grave = false → ∃ d, d < sl.length ∧ sl.getD (pr sl.length (hs e.key) d) 0 = i + 1 ∧ ∀ d', d' < d → sl.getD (pr sl.length (hs e.key) d') 0 ≠ 0
  keys : ∀ (i : Nat) (e : Ent), es[i]? = some e → e.grave = false → norm e.key = e.key
  dist : ∀ (i j : Nat) (e f : Ent), es[i]? = some e → es[j]? = some f → e.grave = false → f.grave = false → e.key = f.key → i = j
theorem getD_set (sl : List Nat) (s x j : Nat) (h : s < sl.length) : (sl.set s x).getD j 0 = if j = s then x else sl.getD j 0 := by
  simp only [List.getD_eq_getElem?_getD, List.getElem?_set]
  by_cases e : s = j
  · subst e; simp [h]
  · rw [if_neg e, if_neg (fun e' => e e'.symm)]
theorem filter_lt {sl : List Nat} (h : (sl.filter (· != 0)).length < sl.length) : ∃ s, s < sl.length ∧ sl.getD s 0 = 0 := by
  induction sl with
  | nil => simp at h
  | cons x l ih =>
    by_cases hx : x = 0
    · exact ⟨0, by simp, by simp [hx]⟩
    · have hb : (x != 0) = true := by simpa using hx
      rw [List.filter_cons, if_pos hb, List.length_cons, List.length_cons] at h
      obtain ⟨s, h1, h2⟩ := ih (by omega)
      exact ⟨s + 1, by simp; omega, by simpa using h2⟩
theorem filter_set {sl : List Nat} {s x : Nat} (h : s < sl.length) (h0 : sl.getD s 0 = 0) : ((sl.set s x).filter (· != 0)).length ≤ (sl.filter (· != 0)).length + 1 := by
  induction sl generalizing s with
  | nil => simp at h
  | cons y l ih =>
    cases s with
    | zero =>
      simp at h0
      subst h0
      simp only [List.set_cons_zero, List.filter_cons]
      split
      · simp
      · simp
    | succ s =>
      simp only [List.set_cons_succ, List.filter_cons]
      have := ih (s := s) (by simpa using h) (by simpa using h0)
      split
      · simp only [List.length_cons]; omega
      · exact this
/-- There is a free slot on a key's way. -/
theorem Core.free {es : List Ent} {sl : List Nat} (c : Core es sl) (h : es.length < sl.length) (k : Nat) : ∃ d, d < sl.length ∧ sl.getD (pr sl.length k d) 0 = 0 := by
  obtain ⟨s, h1, h2⟩ := filter_lt (sl := sl) (Nat.lt_of_le_of_lt c.cnt h)
  obtain ⟨d, h3, h4⟩ := pr_all k s h1
  exact ⟨d, h3, by rw [h4]; exact h2⟩
/-- What find comes to. -/
inductive FindR (es : List Ent) (sl : List Nat) (k : K3) : Int → Nat → Prop
  | none0 : sl.length = 0 → FindR es sl k (-1) 0
  | none (d : Nat) : d < sl.length → sl.getD (pr sl.length (hs (norm k)) d) 0 = 0 → (∀ d', d' < d → sl.getD (pr sl.length (hs (norm k)) d') 0 ≠ 0) → (∀ (i : Nat) (e : Ent), es[i]? = some e → isKey k e = false) → FindR es sl k (-1) (pr sl.length (hs (norm k)) d)
  | some (s : Nat) (i : Nat) (e : Ent) : es[i]? = some e → isKey k e = true → FindR es sl k (i : Int) s
theorem Core.nokey {es : List Ent} {sl : List Nat} (c : Core es sl) {k : K3} {d : Nat} (hd : d < sl.length) (h0 : sl.getD (pr sl.length (hs (norm k)) d) 0 = 0)
    (hn : ∀ d', d' < d → ∀ (i : Nat) (e : Ent), sl.getD (pr sl.length (hs (norm k)) d') 0 = i + 1 → es[i]? = some e → isKey k e = false) : ∀ (i : Nat) (e : Ent), es[i]? = some e → isKey k e = false := by
  intro i e he
  cases hk : isKey k e with
  | false => rfl
  | true =>
    exfalso
    simp only [isKey, Bool.and_eq_true, Bool.not_eq_true', decide_eq_true_eq] at hk
    obtain ⟨d1, h1, h2, h3⟩ := c.probe i e he hk.1
    rw [← c.keys i e he hk.1, hk.2] at h2 h3
    rcases Nat.lt_trichotomy d1 d with h | h | h
    · have := hn d1 h i e h2 he
      simp [isKey, hk.1, hk.2] at this
    · subst h; omega
    · exact h3 d h h0
/-- An entry more. -/
theorem Core.add {es : List Ent} {sl : List Nat} (c : Core es sl) (e : Ent) (hg : e.grave = false) (hk : norm e.key = e.key) (hne : ∀ (i : Nat) (f : Ent), es[i]? = some f → f.grave = false → f.key ≠ e.key)
    {d : Nat} (hd : d < sl.length) (h0 : sl.getD (pr sl.length (hs e.key) d) 0 = 0) (hb : ∀ d', d' < d → sl.getD (pr sl.length (hs e.key) d') 0 ≠ 0) :
    Core (es ++ [e]) (sl.set (pr sl.length (hs e.key) d) (es.length + 1)) := by
  have hs0 : pr sl.length (hs e.key) d < sl.length := pr_lt _ _ (by omega)
  have hlast : ∀ i f, (es ++ [e])[i]? = some f → (i < es.length ∧ es[i]? = some f) ∨ (i = es.length ∧ f = e) := by
    intro i f hf
    rcases Nat.lt_or_ge i es.length with h | h
    · rw [List.getElem?_append_left h] at hf; exact .inl ⟨h, hf⟩
    · rw [List.getElem?_append_right h] at hf
      have : i - es.length = 0 := by
        rcases Nat.eq_zero_or_pos (i - es.length) with h' | h'
        · exact h'
        · rw [List.getElem?_eq_none (by simp; omega)] at hf; cases hf
      rw [this] at hf
      simp at hf
      exact .inr ⟨by omega, hf.symm⟩
  refine ⟨fun s i hi => ?_, ?_, fun i f hf hfg => ?_, fun i f hf hfg => ?_, fun i j f g hf hg' hfg hgg hfk => ?_⟩
  · rw [getD_set _ _ _ _ hs0] at hi
    rw [List.length_append]
    split at hi
    · simp; omega
    · have := c.inr s i hi; simp; omega
  · rw [List.length_append]
    have := filter_set (x := es.length + 1) hs0 h0
    have := c.cnt
    simp; omega
  · rw [List.length_set]
    rcases hlast i f hf with ⟨h1, h2⟩ | ⟨rfl, rfl⟩
    · obtain ⟨d1, g1, g2, g3⟩ := c.probe i f h2 hfg
      refine ⟨d1, g1, ?_, fun d' hd' => ?_⟩
      · rw [getD_set _ _ _ _ hs0, if_neg (fun e' => by rw [e', h0] at g2; omega)]; exact g2
      · rw [getD_set _ _ _ _ hs0]
        split
        · omega
        · exact g3 d' hd'
    · refine ⟨d, hd, by rw [getD_set _ _ _ _ hs0, if_pos rfl], fun d' hd' => ?_⟩
      rw [getD_set _ _ _ _ hs0]
      split
      · omega
      · exact hb d' hd'
  · rcases hlast i f hf with ⟨h1, h2⟩ | ⟨rfl, rfl⟩
    · exact c.keys i f h2 hfg
    · exact hk
  · rcases hlast i f hf with ⟨h1, h2⟩ | ⟨rfl, rfl⟩ <;> rcases hlast j g hg' with ⟨h3, h4⟩ | ⟨rfl, rfl⟩
    · exact c.dist i j f g h2 h4 hfg hgg hfk
    · exact absurd hfk (hne i f h2 hfg)
    · exact absurd hfk.symm (hne j g h4 hgg)
    · rfl
/-- An entry anew at its place, with its key. -/
theorem Core.put {es : List Ent} {sl : List Nat} (c : Core es sl) (j : Nat) (e f : Ent) (he : es[j]? = some e) (hf : f.key = e.key) (hg : f.grave = false → e.grave = false) : Core (es.set j f) sl := by
  have hj : j < es.length := (List.getElem?_eq_some_iff.1 he).1
  have hget : ∀ i g, (es.set j f)[i]? = some g → (i = j ∧ g = f) ∨ (i ≠ j ∧ es[i]? = some g) := by
    intro i g h
    rw [List.getElem?_set] at h
    split at h
    · rename_i h'; exact .inl ⟨h'.symm, by first | exact (Option.some.inj h).symm | (rw [if_pos (by omega)] at h; exact (Option.some.inj h).symm)⟩
    · rename_i h'; exact .inr ⟨fun e => h' e.symm, h⟩
  refine ⟨fun s i hi => by rw [List.length_set]; exact c.inr s i hi, by rw [List.length_set]; exact c.cnt, fun i g h hgg => ?_, fun i g h hgg => ?_, fun i k g g' h h' hgg hgg' hk => ?_⟩
  · rcases hget i g h with ⟨rfl, rfl⟩ | ⟨_, h2⟩
    · rw [hf]; exact c.probe i e he (hg hgg)
    · exact c.probe i g h2 hgg
  · rcases hget i g h with ⟨rfl, rfl⟩ | ⟨_, h2⟩
    · rw [hf]; exact c.keys i e he (hg hgg)
    · exact c.keys i g h2 hgg
  · rcases hget i g h with ⟨rfl, rfl⟩ | ⟨_, h2⟩ <;> rcases hget k g' h' with ⟨rfl, rfl⟩ | ⟨_, h4⟩
    · rfl
    · exact c.dist _ _ _ _ he h4 (hg hgg) hgg' (by rw [← hf]; exact hk)
    · exact c.dist _ _ _ _ h2 he hgg (hg hgg') (by rw [hk, hf])
    · exact c.dist _ _ _ _ h2 h4 hgg hgg' hk
/-- An entry that is gone. -/
theorem Core.del {es : List Ent} {sl : List Nat} (c : Core es sl) (j : Nat) (f : Ent) (hf : f.grave = true) : Core (es.set j f) sl := by
  have hget : ∀ (i : Nat) (g : Ent), (es.set j f)[i]? = some g → g.grave = false → es[i]? = some g := by
    intro i g h hg
    rw [List.getElem?_set] at h
    split at h
    · split at h
      · rw [← Option.some.inj h, hf] at hg; cases hg
      · cases h
    · exact h
  exact ⟨fun s i hi => by rw [List.length_set]; exact c.inr s i hi, by rw [List.length_set]; exact c.cnt, fun i g h hg => c.probe i g (hget i g h hg) hg, fun i g h hg => c.keys i g (hget i g h hg) hg,
    fun i k g g' h h' hg hg' hk => c.dist i k g g' (hget i g h hg) (hget k g' h' hg') hg hg' hk⟩
theorem Core.nil (n : Nat) : Core [] (List.replicate n 0) := by
  have h0 : ∀ s, (List.replicate n 0).getD s 0 = 0 := fun s => by
    rw [List.getD_eq_getElem?_getD, List.getElem?_replicate]; split <;> rfl
  refine ⟨fun s i h => (by rw [h0] at h; omega), ?_, fun i e h => by simp at h, fun i e h => by simp at h, fun i j e f h => by simp at h⟩
  rw [List.filter_replicate]; simp
/-! ### What is there -/
def cp (l : List Ent) : List Ent := l.filter (fun e => !e.grave)
theorem cp_append (l m : List Ent) : cp (l ++ m) = cp l ++ cp m := List.filter_append ..
/-- How many are there ahead of a place. -/
def cnt (l : List Ent) (at_ : Nat) : Nat := (cp (l.take at_)).length
theorem cp_take (l : List Ent) (a : Nat) : cp (l.take a) = (cp l).take (cnt l a) := by
  have h : cp l = cp (l.take a) ++ cp (l.drop a) := by rw [← cp_append, List.take_append_drop]
  rw [h, cnt, List.take_left']
  rfl
theorem cnt_le (l : List Ent) (a : Nat) : cnt l a ≤ (cp l).length := by
  have h : cp l = cp (l.take a) ++ cp (l.drop a) := by rw [← cp_append, List.take_append_drop]
  rw [h, List.length_append]; unfold cnt; omega
theorem mem_cp {l : List Ent} {e : Ent} (h : e ∈ cp l) : e ∈ l ∧ e.grave = false := by
  have := List.mem_filter.1 h
  exact ⟨this.1, by simpa using this.2⟩
theorem dist_cp {l : List Ent} (h : ∀ (i j : Nat) (e f : Ent), l[i]? = some e → l[j]? = some f → e.grave = false → f.grave = false → e.key = f.key → i = j) : (cp l).Pairwise (fun a b => a.key ≠ b.key) := by
  have h1 : l.Pairwise (fun a b => a.grave = false → b.grave = false → a.key ≠ b.key) := by
    rw [List.pairwise_iff_getElem]
    intro i j hi hj hij ha hb e
    have := h i j _ _ (List.getElem?_eq_getElem hi) (List.getElem?_eq_getElem hj) ha hb e
    omega
  have h2 := h1.filter (fun e => !e.grave)
  rw [List.pairwise_iff_getElem] at h2 ⊢
  intro i j hi hj hij
  exact h2 i j hi hj hij (mem_cp (List.getElem_mem hi)).2 (mem_cp (List.getElem_mem hj)).2
def updE (k v : K3) (f : Int) (e : Ent) : Ent := if isKey k e then { e with val := v, flags := f } else e
theorem updE_grave (k v : K3) (f : Int) (e : Ent) : (updE k v f e).grave = e.grave := by unfold updE; split <;> rfl
theorem cp_upd (k v : K3) (f : Int) (l : List Ent) : cp (l.map (updE k v f)) = (cp l).map (updE k v f) := by
  induction l with
  | nil => rfl
  | cons e l ih =>
    simp only [cp, List.map_cons, List.filter_cons, updE_grave] at ih ⊢
    split
    · rw [List.map_cons, ih]
    · exact ih
/-- Keys that are there are unlike. -/
def Dist (l : List Ent) : Prop := ∀ (i j : Nat) (e f : Ent), l[i]? = some e → l[j]? = some f → e.grave = false → f.grave = false → norm e.key = norm f.key → i = j
theorem Core.dst {es : List Ent} {sl : List Nat} (c : Core es sl) : Dist es := fun i j e f h h' hg hg' hk => c.dist i j e f h h' hg hg' (by rw [← c.keys i e h hg, ← c.keys j f h' hg', hk])
theorem isKey_true {k : K3} {e : Ent} : isKey k e = true ↔ e.grave = false ∧ norm e.key = norm k := by simp [isKey]
theorem set_upd {l : List Ent} (hd : Dist l) (k v : K3) (f : Int) (j : Nat) (e : Ent) (he : l[j]? = some e) (hk : isKey k e = true) : l.set j { e with val := v, flags := f } = l.map (updE k v f) := by
  apply List.ext_getElem?
  intro i
  rw [List.getElem?_set, List.getElem?_map]
  have hj : j < l.length := (List.getElem?_eq_some_iff.1 he).1
  split
  · rename_i h; subst h
    rw [he]; simp [updE, hk, hj]
  · rename_i h
    cases hi : l[i]? with
    | none => rfl
    | some g =>
      have hg : isKey k g = false := by
        cases hg : isKey k g with
        | false => rfl
        | true =>
          rw [isKey_true] at hk hg
          exact absurd (hd j i e g he hi hk.1 hg.1 (by rw [hk.2, hg.2])) h
      simp [updE, hg]
theorem cp_del {l : List Ent} (hd : Dist l) (k : K3) (j : Nat) (e g : Ent) (he : l[j]? = some e) (hk : isKey k e = true) (hg : g.grave = true) (a : Nat) :
    cp ((l.set j g).take a) = (cp (l.take a)).filter (fun e => !isKey k e) := by
  have h1 : ∀ (l : List Ent), Dist l → (∀ (j : Nat) (e : Ent), l[j]? = some e → isKey k e = true → cp (l.set j g) = (cp l).filter (fun e => !isKey k e)) ∧ ((∀ (i : Nat) (e : Ent), l[i]? = some e → isKey k e = false) → (cp l).filter (fun e => !isKey k e) = cp l) := by
    intro l hd
    refine ⟨?_, fun h => ?_⟩
    · induction l with
      | nil => intro j e h; simp at h
      | cons x l ih =>
        have hd' : Dist l := fun i j e f h h' a b c => by
          have := hd (i + 1) (j + 1) e f (by simpa using h) (by simpa using h') a b c
          omega
        intro j e he hk
        cases j with
        | zero =>
          simp at he; subst he
          have hx := (isKey_true.1 hk)
          have hno : ∀ i f, l[i]? = some f → isKey k f = false := fun i f hf => by
            cases h : isKey k f with
            | false => rfl
            | true =>
              have h' := isKey_true.1 h
              have := hd 0 (i + 1) x f rfl (by simpa using hf) hx.1 h'.1 (by rw [hx.2, h'.2])
              omega
          have hl : (cp l).filter (fun e => !isKey k e) = cp l := by
            rw [List.filter_eq_self]
            intro f hf
            have hf' := List.mem_filter.1 hf
            obtain ⟨i, hi⟩ := List.getElem?_of_mem hf'.1
            simp [hno i f hi]
          simp only [List.set_cons_zero, cp, List.filter_cons, hg, hx.1] at hl ⊢
          simp only [Bool.not_true, Bool.false_eq_true, if_false, Bool.not_false, if_true, List.filter_cons, hk]
          exact hl.symm
        | succ j =>
          have hx : isKey k x = false := by
            cases h : isKey k x with
            | false => rfl
            | true =>
              have h' := isKey_true.1 h
              have h2 := isKey_true.1 hk
              have := hd 0 (j + 1) x e rfl he h'.1 h2.1 (by rw [h'.2, h2.2])
              omega
          have := ih hd' j e (by simpa using he) hk
          simp only [List.set_cons_succ, cp, List.filter_cons] at this ⊢
          split
          · rw [List.filter_cons, if_pos (by simp [hx]), this]
          · exact this
    · rw [List.filter_eq_self]
      intro f hf
      have hf' := List.mem_filter.1 hf
      obtain ⟨i, hi⟩ := List.getElem?_of_mem hf'.1
      simp [h i f hi]
  have hda : Dist (l.take a) := fun i j e f h h' => by
    rw [List.getElem?_take] at h h'
    split at h
    · split at h'
      · exact hd i j e f h h'
      · cases h'
    · cases h
  rw [List.take_set]
  rcases Nat.lt_or_ge j a with h | h
  · exact (h1 _ hda).1 j e (by rw [List.getElem?_take, if_pos h]; exact he) hk
  · rw [List.set_eq_of_length_le (by rw [List.length_take]; omega)]
    refine ((h1 _ hda).2 fun i f hf => ?_).symm
    rw [List.getElem?_take] at hf
    split at hf
    · rename_i hi
      cases hb : isKey k f with
      | false => rfl
      | true =>
        have h' := isKey_true.1 hb
        have h2 := isKey_true.1 hk
        have := hd j i e f he hf h2.1 h'.1 (by rw [h'.2, h2.2])
        omega
    · cases hf
end Go.Proofs.YtmimnaaofpkndaaDoor
