/- Contract of the statements' seeds of values: which value a seed makes. -/
import Derived.Test.YtjkboelcpihphaaDoorValF
import Derived.Laws.BitsLemmas
set_option linter.unusedVariables false
set_option linter.unusedSimpArgs false
namespace Go.Proofs.YtjkboelcpihphaaDoor
open Go.RowKit

def lowBits (N : Int) (m : Nat) : Nat := (BitVec.ofInt 64 N).toNat &&& m
theorem lowBits_le (N : Int) (m : Nat) : lowBits N m ≤ m := Nat.and_le_right
theorem and_1 (N : Int) : bits .and .i64 N 1 = (lowBits N 1 : Int) := by
  have h := lowBits_le N 1
  show IntKind.i64.wrap (((BitVec.ofInt 64 N &&& BitVec.ofInt 64 1).toNat : Nat) : Int) = _
  rw [BitVec.toNat_and, show (BitVec.ofInt 64 1).toNat = 1 by decide, IntKind.wrap_i64]
  unfold lowBits at h ⊢
  omega
theorem and_63 (N : Int) : bits .and .i64 N 63 = (lowBits N 63 : Int) := by
  have h := lowBits_le N 63
  show IntKind.i64.wrap (((BitVec.ofInt 64 N &&& BitVec.ofInt 64 63).toNat : Nat) : Int) = _
  rw [BitVec.toNat_and, show (BitVec.ofInt 64 63).toNat = 63 by decide, IntKind.wrap_i64]
  unfold lowBits at h ⊢
  omega
def seedN (kk : Nat) (N : Int) : Int := if kk = 2 then (lowBits N 1 : Int) else if kk = 3 then N.tmod 9007199254740992 else if kk = 5 then 1 - 2 * (lowBits N 1 : Int) else if kk = 8 ∨ kk = 9 then (lowBits N 63 : Int) + 1 else 0
def seedU (kk : Nat) (l : List Nat) : List Nat := if kk = 7 then l else []
abbrev SeedV (K N : Int) (a : Option Addr) (n cap : Nat) : Value := .agg #[.int .i64 K, .int .i64 N, .slice a n cap]

theorem seed_is (kk : Nat) (hk : kk ≤ 10) (N : Int) (l : List Nat) (hf : Tx.Fits l) (hl : l.length ≤ 2000) : IsV (kk : Int) (seedN kk N) (Tx.uS (seedU kk l)) := by
  have h1 := lowBits_le N 1
  have h2 := Int.tmod_lt_of_pos N (show (0 : Int) < 9007199254740992 by decide)
  have h3 := Int.lt_tmod_of_pos N (show (0 : Int) < 9007199254740992 by decide)
  refine ⟨by omega, by omega, fun a b => ?_, fun h => ?_, fun h => ?_, ⟨seedU kk l, ?_, rfl, ?_⟩⟩
  · have : kk = 3 ∨ kk = 4 ∨ kk = 5 ∨ kk = 6 := by omega
    unfold IsNum seedN
    rcases this with rfl | rfl | rfl | rfl <;> simp <;> omega
  · unfold seedU
    rw [if_neg (by omega)]; rfl
  · have : kk = 1 ∨ kk = 2 := by omega
    unfold seedN
    rcases this with rfl | rfl <;> simp <;> omega
  · unfold seedU
    split
    · exact hf
    · exact fun u h => by cases h
  · unfold seedU
    split
    · exact hl
    · exact Nat.zero_le _
theorem uS_nil : Tx.uS [] = ⟨#[]⟩ := rfl
set_option maxHeartbeats 2000000 in
set_option maxRecDepth 100000 in
theorem seed_0 (K N : Int) (a : Option Addr) (n cap : Nat) (w : World) (hK : Hid ((wrap64 (K.tmod 11 + 11)).tmod 11 = 0)) : Calls Tryd.prog 10 #[SeedV K N a n cap] w (Ret (VS 0 0 ⟨#[]⟩) w) := by
  have hk := hK.out
  go_enter Tryd.func10, Tryd.ntmps10
  go_wp2
  exact bodyPost_ret (v := VS 0 0 ⟨#[]⟩) (by simp [results, Tryd.results10, go_sem]) rfl ⟨rfl, ((Below.refl _ _).alloc (Nat.le_refl _) _).alloc (by simp) _⟩
set_option maxHeartbeats 2000000 in
set_option maxRecDepth 100000 in
theorem seed_1 (K N : Int) (a : Option Addr) (n cap : Nat) (w : World) (hK : Hid ((wrap64 (K.tmod 11 + 11)).tmod 11 = 1)) : Calls Tryd.prog 10 #[SeedV K N a n cap] w (Ret (VS 1 0 ⟨#[]⟩) w) := by
  have hk := hK.out
  go_enter Tryd.func10, Tryd.ntmps10
  go_wp2
  exact bodyPost_ret (v := VS 1 0 ⟨#[]⟩) (by simp [results, Tryd.results10, go_sem]) rfl ⟨rfl, ((Below.refl _ _).alloc (Nat.le_refl _) _).alloc (by simp) _⟩
set_option maxHeartbeats 2000000 in
set_option maxRecDepth 100000 in
theorem seed_2 (K N : Int) (a : Option Addr) (n cap : Nat) (w : World) (hK : Hid ((wrap64 (K.tmod 11 + 11)).tmod 11 = 2)) : Calls Tryd.prog 10 #[SeedV K N a n cap] w (Ret (VS 2 (lowBits N 1 : Int) ⟨#[]⟩) w) := by
  have hk := hK.out
  have h1 := and_1 N
  have h2 := lowBits_le N 1
  generalize lowBits N 1 = c at *
  go_enter Tryd.func10, Tryd.ntmps10
  go_wp2
  exact bodyPost_ret (v := VS 2 (c : Int) ⟨#[]⟩) (by simp [results, Tryd.results10, go_sem]) rfl ⟨rfl, ((Below.refl _ _).alloc (Nat.le_refl _) _).alloc (by simp) _⟩
set_option maxHeartbeats 2000000 in
set_option maxRecDepth 100000 in
theorem seed_3 (K N : Int) (a : Option Addr) (n cap : Nat) (w : World) (hK : Hid ((wrap64 (K.tmod 11 + 11)).tmod 11 = 3)) : Calls Tryd.prog 10 #[SeedV K N a n cap] w (Ret (VS 3 (N.tmod 9007199254740992) ⟨#[]⟩) w) := by
  have hk := hK.out
  go_enter Tryd.func10, Tryd.ntmps10
  go_wp2
  exact bodyPost_ret (v := VS 3 (N.tmod 9007199254740992) ⟨#[]⟩) (by simp [results, Tryd.results10, go_sem]) rfl ⟨rfl, ((Below.refl _ _).alloc (Nat.le_refl _) _).alloc (by simp) _⟩
set_option maxHeartbeats 2000000 in
set_option maxRecDepth 100000 in
theorem seed_4 (K N : Int) (a : Option Addr) (n cap : Nat) (w : World) (hK : Hid ((wrap64 (K.tmod 11 + 11)).tmod 11 = 4)) : Calls Tryd.prog 10 #[SeedV K N a n cap] w (Ret (VS 4 0 ⟨#[]⟩) w) := by
  have hk := hK.out
  go_enter Tryd.func10, Tryd.ntmps10
  go_wp2
  exact bodyPost_ret (v := VS 4 0 ⟨#[]⟩) (by simp [results, Tryd.results10, go_sem]) rfl ⟨rfl, ((Below.refl _ _).alloc (Nat.le_refl _) _).alloc (by simp) _⟩
set_option maxHeartbeats 2000000 in
set_option maxRecDepth 100000 in
theorem seed_5 (K N : Int) (a : Option Addr) (n cap : Nat) (w : World) (hK : Hid ((wrap64 (K.tmod 11 + 11)).tmod 11 = 5)) : Calls Tryd.prog 10 #[SeedV K N a n cap] w (Ret (VS 5 (1 - 2 * (lowBits N 1 : Int)) ⟨#[]⟩) w) := by
  have hk := hK.out
  have h1 := and_1 N
  have h2 := lowBits_le N 1
  generalize lowBits N 1 = c at *
  go_enter Tryd.func10, Tryd.ntmps10
  go_wp2
  exact bodyPost_ret (v := VS 5 (1 - 2 * (c : Int)) ⟨#[]⟩) (by simp [results, Tryd.results10, go_sem]) rfl ⟨rfl, ((Below.refl _ _).alloc (Nat.le_refl _) _).alloc (by simp) _⟩
set_option maxHeartbeats 2000000 in
set_option maxRecDepth 100000 in
theorem seed_6 (K N : Int) (a : Option Addr) (n cap : Nat) (w : World) (hK : Hid ((wrap64 (K.tmod 11 + 11)).tmod 11 = 6)) : Calls Tryd.prog 10 #[SeedV K N a n cap] w (Ret (VS 6 0 ⟨#[]⟩) w) := by
  have hk := hK.out
  go_enter Tryd.func10, Tryd.ntmps10
  go_wp2
  exact bodyPost_ret (v := VS 6 0 ⟨#[]⟩) (by simp [results, Tryd.results10, go_sem]) rfl ⟨rfl, ((Below.refl _ _).alloc (Nat.le_refl _) _).alloc (by simp) _⟩
set_option maxHeartbeats 2000000 in
set_option maxRecDepth 100000 in
theorem seed_8 (K N : Int) (a : Option Addr) (n cap : Nat) (w : World) (hK : Hid ((wrap64 (K.tmod 11 + 11)).tmod 11 = 8)) : Calls Tryd.prog 10 #[SeedV K N a n cap] w (Ret (VS 8 ((lowBits N 63 : Int) + 1) ⟨#[]⟩) w) := by
  have hk := hK.out
  have h1 := and_63 N
  have h2 := lowBits_le N 63
  generalize lowBits N 63 = c at *
  go_enter Tryd.func10, Tryd.ntmps10
  go_wp2
  exact bodyPost_ret (v := VS 8 ((c : Int) + 1) ⟨#[]⟩) (by simp [results, Tryd.results10, go_sem]) rfl ⟨rfl, ((Below.refl _ _).alloc (Nat.le_refl _) _).alloc (by simp) _⟩
set_option maxHeartbeats 2000000 in
set_option maxRecDepth 100000 in
theorem seed_9 (K N : Int) (a : Option Addr) (n cap : Nat) (w : World) (hK : Hid ((wrap64 (K.tmod 11 + 11)).tmod 11 = 9)) : Calls Tryd.prog 10 #[SeedV K N a n cap] w (Ret (VS 9 ((lowBits N 63 : Int) + 1) ⟨#[]⟩) w) := by
  have hk := hK.out
  have h1 := and_63 N
  have h2 := lowBits_le N 63
  generalize lowBits N 63 = c at *
  go_enter Tryd.func10, Tryd.ntmps10
  go_wp2
  exact bodyPost_ret (v := VS 9 ((c : Int) + 1) ⟨#[]⟩) (by simp [results, Tryd.results10, go_sem]) rfl ⟨rfl, ((Below.refl _ _).alloc (Nat.le_refl _) _).alloc (by simp) _⟩
set_option maxHeartbeats 2000000 in
set_option maxRecDepth 100000 in
theorem seed_10 (K N : Int) (a : Option Addr) (n cap : Nat) (w : World) (hK : Hid ((wrap64 (K.tmod 11 + 11)).tmod 11 = 10)) : Calls Tryd.prog 10 #[SeedV K N a n cap] w (Ret (VS 10 0 ⟨#[]⟩) w) := by
  have hk := hK.out
  go_enter Tryd.func10, Tryd.ntmps10
  go_wp2
  exact bodyPost_ret (v := VS 10 0 ⟨#[]⟩) (by simp [results, Tryd.results10, go_sem]) rfl ⟨rfl, ((Below.refl _ _).alloc (Nat.le_refl _) _).alloc (by simp) _⟩
set_option maxHeartbeats 4000000 in
set_option maxRecDepth 100000 in
theorem seed_7 (K N : Int) (a : Option Addr) (n cap : Nat) (l : List Nat) (w : World) (hK : Hid ((wrap64 (K.tmod 11 + 11)).tmod 11 = 7)) (h : Tx.SliceR .u16 w a n cap (Tx.ints l)) (hf : Tx.Fits l) (hn : n ≤ 2000) :
    Calls Tryd.prog 10 #[SeedV K N a n cap] w (Ret (VS 7 0 (Tx.uS l)) w) := by
  have hk := hK.out
  obtain ⟨i0, hi, hz0, hz1, hz2⟩ := info_parts Tx.infoInt
  obtain ⟨h1, h2, h3, h3', h4⟩ := h
  rw [Tx.ints_length] at h1
  have H4 := Lib.hid h4
  clear h3' h4
  go_enter Tryd.func10, Tryd.ntmps10
  go_wp2_with fail
  clear hk
  have kr := Blk.new (w.alloc (.cells #[.int .i64 K, .int .i64 N, .slice a n cap] 24)) 27 #[.int .i64 0, .int .i64 0, .string ⟨#[]⟩]
  rw [World.size_alloc] at kr
  have bb := ((Below.refl w.heap.size w).alloc (Nat.le_refl _) (.cells #[.int .i64 K, .int .i64 N, .slice a n cap] 24)).alloc (by simp) (.cells #[.int .i64 0, .int .i64 0, .string ⟨#[]⟩] 27)
  generalize (w.alloc (.cells #[.int .i64 K, .int .i64 N, .slice a n cap] 24)).alloc (.cells #[.int .i64 0, .int .i64 0, .string ⟨#[]⟩] 27) = W at *
  have hkl := kr.lt
  have HKR := Lib.hid kr
  clear kr
  go_loopw [4, 41] (fun v i wr => ∃ k : Nat, k ≤ n ∧ i = .int .i64 k ∧ wr.ownsRow W.heap.size 3 1 v k (Tx.numCells .i64 (Tx.ints (l.take k))) ∧ Below W.heap.size W wr) (fun _ i _ => n - (intOf i).toNat)
  case atStart => exact ⟨0, Nat.zero_le _, rfl, World.ownsRow_nil _ _ _ _, Below.refl _ _⟩
  case round =>
    obtain ⟨k, hk, rfl, hown, hb⟩ := hrel
    by_cases hlt : k < n
    · obtain ⟨b, off, rfl, hbl, hcell⟩ := H4.out (by omega)
      have bw := bb.trans (hb.mono bb.size)
      have hck := (bw.cell (p := ⟨b, off + k, none⟩) hbl).trans (hcell k hlt)
      rw [Tx.ints_getD] at hck
      have hul : l.getD k 0 < 65536 := by
        rw [List.getD_eq_getElem?_getD, List.getElem?_eq_getElem (by omega)]; exact hf _ (List.getElem_mem _)
      have hts := Tx.take_snocN l k (by omega)
      obtain ⟨u, hu⟩ : ∃ u, u = l.getD k 0 := ⟨_, rfl⟩
      rw [← hu] at hck hul hts
      have HT := Lib.hid hts
      clear hts hcell h1 hu bw
      have hz := hb.size
      have hk0 : (0 : Int) ≤ (k : Int) := by omega
      have hk1 : (k : Int) < (n : Int) := by omega
      have y0 : (0 : Int) ≤ (u : Int) := by omega
      go_wp2_with (at_builtin; refine wpList_append_own _ rfl _ _ 33 rfl W.heap.size 3 i0 (.int .i64 0) 1 8 Tryd.underlying33 hi hz0 hz1 hz2 rfl (by decide) _ _ _ rfl (hown.alloc _) ⟨wr.heap.size, 0, none⟩ 1 1 [.int .i64 (u : Int)] rfl rfl (by intro j v hj; match j, hj with | 0, hj => simp at hj; subst hj; simp [Addr.add]) (by simp [Value.oneCell']) (by unfold maxLen; omega) (by omega) (by simp; omega) ?_)
      intro v' w1 hown1 hgrow _
      have hb2 := (hb.alloc hz (.cells #[.int .i64 (u : Int)] 3)).grown hgrow (by simp; omega) (fun k' hk' => ((hown.alloc (.cells #[.int .i64 (u : Int)] 3)).lt k' hk').1)
      clear hown hgrow
      go_wp2
      go_roundw
      case rel =>
        refine ⟨k + 1, by omega, by go_num, ?_, hb2⟩
        rw [HT.out, Tx.ints_append, Tx.numCells_append]
        exact hown1
      case measure => simp [intOf]; omega
    · have hk2 : k = n := by omega
      subst hk2
      have t1 : decide ((k : Int) < (k : Int)) = false := by simp
      rw [List.take_of_length_le (by omega)] at hown
      subst h1
      obtain ⟨a', cap', rfl, hR, hB⟩ := Tx.sliceR_own (l := Tx.ints l) (by rw [Tx.ints_length]; exact hown)
      rw [Tx.ints_length] at hR ⊢
      clear H4 h2 h3
      have HR := Lib.hid hR
      clear hR hown
      go_wp2_with fail
      refine (Tx.str_any a' l.length cap' l _ HR.out hf (by omega)).mono ?_
      rintro e w2 ⟨rfl, b2⟩
      have hb2 := hb.trans (b2.mono hb.size)
      have kr := HKR.out.below hb2 hkl
      have x0 : w2.cell? ⟨w.heap.size + 1, 0, none⟩ = some (.int .i64 0) := by rw [kr.cell]; rfl
      have x1 : w2.cell? ⟨w.heap.size + 1, 1, none⟩ = some (.int .i64 0) := by rw [kr.cell]; rfl
      have x2 : w2.cell? ⟨w.heap.size + 1, 2, none⟩ = some (.string ⟨#[]⟩) := by rw [kr.cell]; rfl
      have z0 := kr.frozen 0
      have z1 := kr.frozen 1
      have z2 := kr.frozen 2
      have lr := kr.lt
      have be := bb.trans (hb2.mono bb.size)
      clear kr hb b2 hb2 bb
      go_wp2
      exact bodyPost_ret (v := VS 7 0 (Tx.uS l)) (by simp [results, Tryd.results10, go_sem, x0, x1, x2, lr]) rfl ⟨rfl, ((be.setCell (p := ⟨w.heap.size + 1, 0, none⟩) (by simp) _).setCell (p := ⟨w.heap.size + 1, 1, none⟩) (by simp) _).setCell (p := ⟨w.heap.size + 1, 2, none⟩) (by simp) _⟩
theorem seed_any (K N : Int) (a : Option Addr) (n cap : Nat) (l : List Nat) (kk : Nat) (w : World) (hK : Hid ((wrap64 (K.tmod 11 + 11)).tmod 11 = (kk : Int))) (hk : kk ≤ 10) (h : Tx.SliceR .u16 w a n cap (Tx.ints l)) (hf : Tx.Fits l) (hn : n ≤ 2000) :
    Calls Tryd.prog 10 #[SeedV K N a n cap] w (Ret (VS kk (seedN kk N) (Tx.uS (seedU kk l))) w) := by
  have hc : kk = 0 ∨ kk = 1 ∨ kk = 2 ∨ kk = 3 ∨ kk = 4 ∨ kk = 5 ∨ kk = 6 ∨ kk = 7 ∨ kk = 8 ∨ kk = 9 ∨ kk = 10 := by omega
  rcases hc with rfl | rfl | rfl | rfl | rfl | rfl | rfl | rfl | rfl | rfl | rfl
  · exact seed_0 K N a n cap w hK
  · exact seed_1 K N a n cap w hK
  · exact seed_2 K N a n cap w hK
  · exact seed_3 K N a n cap w hK
  · exact seed_4 K N a n cap w hK
  · exact seed_5 K N a n cap w hK
  · exact seed_6 K N a n cap w hK
  · exact seed_7 K N a n cap l w hK h hf hn
  · exact seed_8 K N a n cap w hK
  · exact seed_9 K N a n cap w hK
  · exact seed_10 K N a n cap w hK
end Go.Proofs.YtjkboelcpihphaaDoor
