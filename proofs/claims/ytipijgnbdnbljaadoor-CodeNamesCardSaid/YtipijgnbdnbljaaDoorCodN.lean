/- Contract of an instruction's Show: its operation's name and its two numbers. -/
import Derived.Test.YtipijgnbdnbljaaDoorCodF
import Derived.Shelf.Strconv.Itoa3
import Derived.Laws.Concat
import Derived.Lib.ItoaLen
set_option linter.unusedVariables false
set_option linter.unusedSimpArgs false
namespace Go.Proofs.YtipijgnbdnbljaaDoor
open Go.RowKit

def nms : List (List UInt8) := [[67, 111, 110, 115, 116], [85, 110, 100, 101, 102], [78, 117, 108, 108], [84, 114, 117, 101], [70, 97, 108, 115, 101], [80, 111, 112], [68, 117, 112], [83, 119, 97, 112], [80, 105, 99, 107], [82, 111, 116], [71, 101, 116], [83, 101, 116], [73, 110, 105, 116], [85, 110, 107, 110, 111, 119, 110], [76, 111, 99, 107, 101, 100], [69, 110, 116, 101, 114], [76, 101, 97, 118, 101], [65, 103, 97, 105, 110], [80, 114, 111, 112], [73, 110, 100, 101, 120], [80, 117, 116, 80, 114, 111, 112], [80, 117, 116, 73, 110, 100, 101, 120], [68, 101, 108, 80, 114, 111, 112], [68, 101, 108, 73, 110, 100, 101, 120], [83, 117, 112, 101, 114, 80, 114, 111, 112], [66, 105, 110, 97, 114, 121], [78, 101, 103], [80, 108, 117, 115], [78, 111, 116], [84, 121, 112, 101, 111, 102], [78, 117, 109, 98, 101, 114], [73, 110, 99], [68, 101, 99], [73, 110], [73, 110, 115, 116, 97, 110, 99, 101], [74, 117, 109, 112], [74, 117, 109, 112, 73, 102], [74, 117, 109, 112, 78, 111], [65, 110, 100], [79, 114], [69, 108, 115, 101], [79, 98, 106, 101, 99, 116], [65, 114, 114, 97, 121], [80, 117, 115, 104], [72, 111, 108, 101], [80, 117, 115, 104, 65, 108, 108], [79, 119, 110, 73, 110, 100, 101, 120], [77, 101, 114, 103, 101], [77, 101, 116, 104, 111, 100, 73, 110, 100, 101, 120], [67, 108, 111, 115, 117, 114, 101], [67, 108, 97, 115, 115], [77, 101, 109, 98, 101, 114], [67, 97, 108, 108], [67, 97, 108, 108, 65, 108, 108], [78, 101, 119], [78, 101, 119, 65, 108, 108], [83, 117, 112, 101, 114], [83, 117, 112, 101, 114, 65, 108, 108], [65, 98, 111, 118, 101], [84, 104, 105, 115], [82, 101, 116, 117, 114, 110], [84, 104, 114, 111, 119], [84, 114, 121], [70, 105, 110, 105, 115, 104], [69, 110, 100, 84, 114, 121], [69, 110, 100, 101, 100], [82, 101, 115, 117, 109, 101], [76, 111, 111, 112], [77, 97, 114, 107], [69, 110, 100, 76, 111, 111, 112], [66, 114, 101, 97, 107], [67, 111, 110, 116, 105, 110, 117, 101], [79, 112, 101, 110], [78, 101, 120, 116], [83, 116, 101, 112], [82, 101, 115, 116], [67, 108, 111, 115, 101], [83, 104, 117, 116], [78, 101, 101, 100], [78, 111, 116, 101], [79, 116, 104, 101, 114, 115], [65, 114, 103], [65, 114, 103, 115], [89, 105, 101, 108, 100], [68, 101, 108, 101, 103, 97, 116, 101], [80, 111, 105, 110, 116], [80, 105, 99, 107, 50], [78, 97, 109, 101]]
theorem nms_len : nms.length = 88 := by decide +kernel
def nmsV : Array Value := (nms.map fun l => Value.string ⟨l.toArray⟩).toArray
def nmB (i : Nat) : ByteArray := ⟨(nms.getD i []).toArray⟩
theorem nmsV_at (i : Nat) (h : i < 88) : nmsV[i]? = some (.string (nmB i)) := by
  have : i < nms.length := by rw [nms_len]; exact h
  simp [nmsV, nmB, List.getD_eq_getElem?_getD, List.getElem?_eq_getElem this]
theorem nms_nodup : nms.Nodup := by decide +kernel
theorem nmB_inj (i j : Nat) (hi : i < 88) (hj : j < 88) (h : nms.getD i [] = nms.getD j []) : i = j := by
  have h1 : i < nms.length := by rw [nms_len]; exact hi
  have h2 : j < nms.length := by rw [nms_len]; exact hj
  rw [List.getD_eq_getElem?_getD, List.getD_eq_getElem?_getD, List.getElem?_eq_getElem h1, List.getElem?_eq_getElem h2] at h
  simp only [Option.getD_some] at h
  exact (List.getElem_inj nms_nodup).1 h
theorem nm_pos (i : Nat) (hi : i < 88) : 0 < (nms.getD i []).length := by
  have h1 : i < nms.length := by rw [nms_len]; exact hi
  have : nms.all (fun l => decide (0 < l.length)) = true := by decide +kernel
  rw [List.getD_eq_getElem?_getD, List.getElem?_eq_getElem h1]
  simpa using List.all_eq_true.1 this _ (List.getElem_mem h1)

theorem fields_names (s : ByteArray) (w : World) (h : Tb w) (h1 : Lib.fields s.data.toList = nms) (h2 : s.data.toList.all (fun b => decide (b.toNat < 128)) = true) (h3 : s.size < 4294967281) :
    Calls Tryd.prog 16 #[.string s] w fun e w' => e = .returned (.slice (some ⟨w.heap.size, 0, none⟩) 88 88) ∧ w' = w.alloc (.cells nmsV 9) := by
  have := Tryd.strings_Fields s w h3 (fun j b hb => by simpa using List.all_eq_true.1 h2 b (List.mem_of_getElem? hb)) h
  rw [h1, nms_len] at this
  exact this

/-- A small number's text. -/
def decB (n : Nat) : ByteArray := ⟨(Lib.decDigits n).toArray⟩
def showB (k A B : Nat) : ByteArray := nmB k ++ ⟨#[32]⟩ ++ decB A ++ ⟨#[32]⟩ ++ decB B

theorem cat (a b c : ByteArray) (h : Hid (c = a ++ b)) (hs : a.size + b.size ≤ 1000000) (W : World) : (Op.stringOp .add a b).run Tryd.prog W = .ok (.string c) W := by
  rw [h.out]; exact run_string_add_sum W a b (by omega)
theorem nmB_size (i : Nat) (hi : i < 88) : (nmB i).size ≤ 20 := by
  have h1 : i < nms.length := by rw [nms_len]; exact hi
  have : nms.all (fun l => decide (l.length ≤ 20)) = true := by decide +kernel
  have h2 := List.all_eq_true.1 this _ (List.getElem_mem h1)
  unfold nmB
  rw [List.getD_eq_getElem?_getD, List.getElem?_eq_getElem h1]
  simpa [ByteArray.size] using h2
theorem decB_size (n : Nat) (h : n < 2) : (decB n).size = 1 := by
  have : n = 0 ∨ n = 1 := by omega
  rcases this with rfl | rfl
  · unfold decB; rw [Lib.decDigits]; rfl
  · unfold decB; rw [Lib.decDigits]; rfl
set_option maxHeartbeats 4000000 in
set_option maxRecDepth 100000 in
theorem show_any (k A B : Nat) (w : World) (h : Tb w) (hk : k < 88) (hA : A < 2) (hB : B < 2) :
    Calls Tryd.prog 15 #[.agg #[.int .i64 ((k : Int) + 1), .int .i64 A, .int .i64 B]] w (Ret (.string (showB k A B)) w) := by
  have t1 : decide ((k : Int) + 1 < 1) = false := by simp; omega
  have t2 : decide ((88 : Int) < (k : Int) + 1) = false := by simp; omega
  have HT := Lib.hid h
  clear h
  go_enter Tryd.func15, Tryd.ntmps15
  go_wp2_with fail
  have b1 : Below w.heap.size w (w.alloc (.cells #[.int .i64 ((k : Int) + 1), .int .i64 A, .int .i64 B] 36)) := (Below.refl _ _).alloc (Nat.le_refl _) _
  refine (fields_names _ _ (HT.out.below b1) (by decide +kernel) (by decide +kernel) (by decide +kernel)).mono ?_
  rintro e w2 ⟨rfl, rfl⟩
  have g := Blk.new (w.alloc (.cells #[.int .i64 ((k : Int) + 1), .int .i64 A, .int .i64 B] 36)) 9 nmsV
  rw [World.size_alloc] at g
  have gk := g.cell k
  rw [nmsV_at k hk] at gk
  clear g
  have C1 := Lib.hid (fun W => Tryd.strconv_Itoa_small A (by omega) W)
  have C2 := Lib.hid (fun W => Tryd.strconv_Itoa_small B (by omega) W)
  have b2 := b1.alloc (by simp) (.cells nmsV 9)
  have x0 : ((w.alloc (.cells #[.int .i64 ((k : Int) + 1), .int .i64 A, .int .i64 B] 36)).alloc (.cells nmsV 9)).cell? ⟨w.heap.size, 0, none⟩ = some (.int .i64 ((k : Int) + 1)) := by rw [((Blk.new w 36 #[.int .i64 ((k : Int) + 1), .int .i64 A, .int .i64 B]).alloc (.cells nmsV 9)).cell]; rfl
  have x1 : ((w.alloc (.cells #[.int .i64 ((k : Int) + 1), .int .i64 A, .int .i64 B] 36)).alloc (.cells nmsV 9)).cell? ⟨w.heap.size, 1, none⟩ = some (.int .i64 (A : Int)) := by rw [((Blk.new w 36 #[.int .i64 ((k : Int) + 1), .int .i64 A, .int .i64 B]).alloc (.cells nmsV 9)).cell]; rfl
  have x2 : ((w.alloc (.cells #[.int .i64 ((k : Int) + 1), .int .i64 A, .int .i64 B] 36)).alloc (.cells nmsV 9)).cell? ⟨w.heap.size, 2, none⟩ = some (.int .i64 (B : Int)) := by rw [((Blk.new w 36 #[.int .i64 ((k : Int) + 1), .int .i64 A, .int .i64 B]).alloc (.cells nmsV 9)).cell]; rfl
  generalize (w.alloc (.cells #[.int .i64 ((k : Int) + 1), .int .i64 A, .int .i64 B] 36)).alloc (.cells nmsV 9) = W at *
  clear b1
  have z0 := nmB_size k hk
  have z1 := decB_size A hA
  have z2 := decB_size B hB
  obtain ⟨S1, hS1⟩ : ∃ S, S = nmB k ++ ⟨#[32]⟩ := ⟨_, rfl⟩
  obtain ⟨S2, hS2⟩ : ∃ S, S = S1 ++ decB A := ⟨_, rfl⟩
  obtain ⟨S3, hS3⟩ : ∃ S, S = S2 ++ ⟨#[32]⟩ := ⟨_, rfl⟩
  obtain ⟨S4, hS4⟩ : ∃ S, S = S3 ++ decB B := ⟨_, rfl⟩
  have y0 : (⟨#[32]⟩ : ByteArray).size = 1 := rfl
  have y1 : S1.size ≤ 21 := by rw [hS1, ByteArray.size_append]; omega
  have y2 : S2.size ≤ 22 := by rw [hS2, ByteArray.size_append]; omega
  have y3 : S3.size ≤ 23 := by rw [hS3, ByteArray.size_append]; omega
  have HS := Lib.hid (show showB k A B = S4 by rw [hS4, hS3, hS2, hS1]; rfl)
  have a1 := fun W => cat _ _ _ (Lib.hid hS1) (by omega) W
  have a2 := fun W => cat _ _ _ (Lib.hid hS2) (by omega) W
  have a3 := fun W => cat _ _ _ (Lib.hid hS3) (by omega) W
  have a4 := fun W => cat _ _ _ (Lib.hid hS4) (by omega) W
  clear hS1 hS2 hS3 hS4 y0 y1 y2 y3 z0 z1 z2
  have C1 := Lib.hid (show ∀ W, Calls Tryd.prog 19 #[.int .i64 A] W fun e w' => e = .returned (.string (decB A)) ∧ w' = W from C1.out)
  have C2 := Lib.hid (show ∀ W, Calls Tryd.prog 19 #[.int .i64 B] W fun e w' => e = .returned (.string (decB B)) ∧ w' = W from C2.out)
  have e1 : IntKind.i64.wrap ((k : Int) + 1 - 1) = (k : Int) := by rw [IntWalk.i64_in _ (by omega)]; omega
  have e4 : IntKind.i64.wrap (k : Int) = (k : Int) := IntWalk.i64_in _ (by omega)
  have e2 : (0 : Int) ≤ (k : Int) := by omega
  have e3 : (k : Int) < 88 := by omega
  go_wp2_with fail
  go_quiet (first | (go_at_call_of 19 (Value.int .i64 (A : Int)); exact Calls.quiet_of_same (C1.out _)) | (go_at_call_of 19 (Value.int .i64 (B : Int)); exact Calls.quiet_of_same (C2.out _)))
  go_wp2_with fail
  go_ret
  exact ⟨by rw [HS.out]; rfl, belowN b2 _⟩
end Go.Proofs.YtipijgnbdnbljaaDoor
