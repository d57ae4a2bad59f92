/- ShZt: several texts in one. -/
import Derived.Test.YtdeboajjhpecbaaGreatDoorShZa
import Derived.Test.YtdeboajjhpecbaaGreatDoorValI
import Derived.Test.YtdeboajjhpecbaaGreatDoorTxtE
import Derived.Deep.CutBlock
/- Show: the document's Show. -/
set_option linter.unusedVariables false
set_option linter.unusedSimpArgs false
namespace Go.Proofs.YtdeboajjhpecbaaGreatDoor.Hp
open Go.RowKit Go.Proofs.YtdeboajjhpecbaaGreatDoor Go.Shelf
/-- A value of the document's. -/
abbrev VR (k n : Int) (s : ByteArray) (p : Value) : Value := .agg #[.int .i64 k, .int .i64 n, .string s, p]
abbrev K4 := Int × Int × ByteArray × Value
abbrev VQ (v : K4) : Value := VR v.1 v.2.1 v.2.2.1 v.2.2.2
/-- An object's cells: its class, elements, name. -/
abbrev robC (cl : ByteArray) (ev : Value) (nk nn : Int) (ns : ByteArray) : Array Value :=
  #[.string cl, nilP, nilS, ev, .int .i64 nk, .int .i64 nn, .string ns, nilP, nilP, nilP, .int .i64 0, .int .i64 0, .string ⟨#[]⟩, nilP, nilP, .string ⟨#[]⟩, .bool false, .bool false, .bool false, nilS, .int .i64 0, .int .i64 0, .int .i64 0, .string ⟨#[]⟩, nilP, .int .i64 0, .string ⟨#[]⟩, .int .i64 0, .bool false]
set_option maxHeartbeats 4000000 in
theorem rcut_any (s : ByteArray) (hs : s.size ≤ 16384) (w : World) : Calls Tryz.prog 21 #[.string s] w (ShwP s w) := by
  have t1 : decide ((s.size : Int) > 16384) = false := by simp; omega
  go_enter Tryz.func21, Tryz.ntmps21
  go_wp2
  go_ret
  exact ⟨rfl, Below.refl _ _⟩
set_option maxHeartbeats 4000000 in
theorem rprim_any (k n : Int) (s : ByteArray) (p : Value) (w : World) : Calls Tryz.prog 60 #[VR k n s p] w (Ret (VS k n s) w) := by
  go_enter Tryz.func60, Tryz.ntmps60
  go_wp2
  exact bodyPost_ret (v := VS k n s) (by simp [results, Tryz.results60, go_sem]) rfl ⟨rfl, ((Below.refl _ _).alloc (Nat.le_refl _) _).alloc (by simp) _⟩
set_option maxRecDepth 100000 in
set_option maxHeartbeats 4000000 in
theorem rwhole_empty (n d : Int) (s : ByteArray) (p : Value) (w : World) : Calls Tryz.prog 22 #[VR 10 n s p, .int .i64 d] w (ShwP ⟨#[]⟩ w) := by
  go_enter Tryz.func22, Tryz.ntmps22
  go_wp2
  go_ret
  exact ⟨rfl, (Below.refl _ _).alloc (Nat.le_refl _) _⟩
set_option maxRecDepth 100000 in
set_option maxHeartbeats 4000000 in
/-- Go of List of a string of units. -/
theorem rgo_list (l : List Nat) (hf : Tx.Fits l) (hl : l.length ≤ 10000) (W : World) :
    Calls Tryz.prog 34 #[.string (Tx.uS l)] W fun e W' => ∃ a cap, e = .returned (.slice a l.length cap) ∧ Tx.SliceR .i64 W' a l.length cap (Tx.ints l) ∧ Below W.heap.size W W' := by
  refine (Tx.list_any (Tx.uS l) W (by rw [Tx.uS_size]; omega)).mono ?_
  rintro e W' ⟨v, rfl, hown, hb⟩
  rw [Tx.unitsTo_uS l hf] at hown
  have hlI : (Tx.ints l).length = l.length := Tx.ints_length _
  rw [← hlI] at hown
  obtain ⟨a, cap, rfl, hR, _⟩ := Tx.sliceR_own hown
  rw [hlI] at hR
  exact ⟨a, cap, by rw [hlI], hR, hb⟩
theorem rgo_any (a : Option Addr) (cap : Nat) (l : List Nat) (W : World) (hR : Tx.SliceR .i64 W a l.length cap (Tx.ints l)) (hf : Tx.Fits l) (hl : l.length ≤ 10000) :
    Calls Tryz.prog 33 #[.slice a l.length cap] W fun e W' => e = .returned (.string ⟨(goU l).toArray⟩) ∧ Below W.heap.size W W' :=
  Tx.refGo_any a l.length cap l W hR hf (by omega)
abbrev rbox (k n : Int) (s : ByteArray) (p : Value) : Obj := .cells #[.int .i64 k, .int .i64 n, .string s, p] 33
set_option maxRecDepth 100000 in
set_option maxHeartbeats 4000000 in
theorem rtext13_any (k n c : Int) (s t : ByteArray) (p : Value) (w : World) (hT : ∀ W, Below w.heap.size w W → Calls Tryz.prog 59 #[VS k n s] W (Ret (.tuple #[.string t, .int .i64 c]) W)) :
    Calls Tryz.prog 36 #[VR k n s p] w (Ret (VS 7 0 t) w) := by
  have b0 : Below w.heap.size w ((w.alloc (rbox k n s p)).alloc (.cells VZ 30)) := ((Below.refl _ _).alloc (Nat.le_refl _) _).alloc (by simp) _
  have kb : Blk ((w.alloc (rbox k n s p)).alloc (.cells VZ 30)) w.heap.size 33 #[.int .i64 k, .int .i64 n, .string s, p] := (Blk.new w _ _).alloc _
  have rb : Blk ((w.alloc (rbox k n s p)).alloc (.cells VZ 30)) (w.heap.size + 1) 30 VZ := by
    have := Blk.new (w.alloc (rbox k n s p)) 30 VZ
    rwa [World.size_alloc] at this
  have HT := Lib.hid hT
  have HI := Lib.hid (And.intro b0 (And.intro kb rb))
  clear hT b0 kb rb
  go_enter Tryz.func36, Tryz.ntmps36
  go_wp2_with (fail)
  refine (rprim_any k n s p _).mono ?_
  rintro e w2 ⟨rfl, b2⟩
  have HJ := Lib.hid (And.intro (HI.out.1.trans (b2.mono HI.out.1.size)) (HI.out.2.2.below b2 HI.out.2.2.lt))
  clear b2 HI
  go_wp2_with (fail)
  refine (HT.out w2 HJ.out.1).mono ?_
  rintro e w3 ⟨rfl, b3⟩
  have HK := Lib.hid (And.intro (HJ.out.1.trans (b3.mono HJ.out.1.size)) (HJ.out.2.below b3 HJ.out.2.lt))
  clear b3 HJ
  have z0 : w3.frozen? ⟨w.heap.size + 1, 0, none⟩ = false := HK.out.2.frozen 0
  have z1 : w3.frozen? ⟨w.heap.size + 1, 1, none⟩ = false := HK.out.2.frozen 1
  have z2 : w3.frozen? ⟨w.heap.size + 1, 2, none⟩ = false := HK.out.2.frozen 2
  have y0 : w3.cell? ⟨w.heap.size + 1, 0, none⟩ = some (.int .i64 0) := by rw [HK.out.2.cell]; rfl
  have y1 : w3.cell? ⟨w.heap.size + 1, 1, none⟩ = some (.int .i64 0) := by rw [HK.out.2.cell]; rfl
  have y2 : w3.cell? ⟨w.heap.size + 1, 2, none⟩ = some (.string ⟨#[]⟩) := by rw [HK.out.2.cell]; rfl
  have l5 := HK.out.2.lt
  go_wp2
  refine bodyPost_ret (v := VS 7 0 t) (by simp [results, Tryz.results36, go_sem, y0, y1, y2, l5]) rfl ?_
  have u : Upd w3 (((w3.setCell ⟨w.heap.size + 1, 0, none⟩ (.int .i64 7)).setCell ⟨w.heap.size + 1, 1, none⟩ (.int .i64 0)).setCell ⟨w.heap.size + 1, 2, none⟩ (.string t)) (fun k => k = w.heap.size + 1) := (((Upd.refl w3 (fun k => k = w.heap.size + 1)).set _ 0 _ rfl).set _ 1 _ rfl).set _ 2 _ rfl
  exact ⟨rfl, HK.out.1.trans (u.below HK.out.1.size (fun k e => by omega))⟩
set_option maxRecDepth 100000 in
set_option maxHeartbeats 4000000 in
theorem rwhole_lf (k n c : Int) (s : ByteArray) (p : Value) (d : Int) (l : List Nat) (w : World) (h8 : (k == 8) = false) (h9 : (k == 9) = false) (h10 : (k == 10) = false) (hf : Tx.Fits l) (hl : l.length ≤ 10000)
    (hT : ∀ W, Below w.heap.size w W → Calls Tryz.prog 59 #[VS k n s] W (Ret (.tuple #[.string (Tx.uS l), .int .i64 c]) W)) :
    Calls Tryz.prog 22 #[VR k n s p, .int .i64 d] w (ShwP ⟨(goU l).toArray⟩ w) := by
  have b0 : Below w.heap.size w (w.alloc (rbox k n s p)) := (Below.refl _ _).alloc (Nat.le_refl _) _
  have HT := Lib.hid hT
  have HB := Lib.hid b0
  have HF := Lib.hid (And.intro hf hl)
  clear hT b0 hf hl
  go_enter Tryz.func22, Tryz.ntmps22
  go_wp2_with (fail)
  refine (rtext13_any k n c s (Tx.uS l) p _ (fun W hW => HT.out W (HB.out.trans (hW.mono HB.out.size)))).mono ?_
  rintro e w2 ⟨rfl, b2⟩
  have HB2 := Lib.hid (HB.out.trans (b2.mono HB.out.size))
  clear b2 HB
  obtain ⟨us, hus⟩ : ∃ u, Tx.uS l = u := ⟨_, rfl⟩
  have HUS := Lib.hid hus
  rw [hus]
  clear hus
  have hfield : ∀ W, (Instr.field 30 (.agg #[.int .i64 7, .int .i64 0, .string us]) 2).run Tryz.prog W = .ok (.string us) W := fun W => by kernel_rfl
  go_wp2_with (fail)
  rw [← HUS.out]
  refine (rgo_list l HF.out.1 HF.out.2 w2).mono ?_
  rintro e w3 ⟨a, cap, rfl, hR, b3⟩
  have HB3 := Lib.hid (And.intro (HB2.out.trans (b3.mono HB2.out.size)) hR)
  clear b3 HB2 hR
  go_wp2_with (fail)
  refine (rgo_any a cap l w3 HB3.out.2 HF.out.1 HF.out.2).mono ?_
  rintro e w4 ⟨rfl, b4⟩
  have HB4 := Lib.hid (HB3.out.1.trans (b4.mono HB3.out.1.size))
  clear b4 HB3
  go_wp2
  go_ret
  exact ⟨rfl, HB4.out⟩
set_option maxRecDepth 100000 in
set_option maxHeartbeats 4000000 in
theorem rwhole_sym (n : Int) (s : ByteArray) (q : Nat) (d : Int) (l : List Nat) (w : World) (hq : Blk w q 46 (robC ⟨#[115, 121, 109, 98, 111, 108]⟩ nilS 7 0 (Tx.uS l))) (hf : Tx.Fits l) (hl : l.length ≤ 1000) :
    Calls Tryz.prog 22 #[VR 8 n s (.pointer (some ⟨q, 0, none⟩)), .int .i64 d] w (ShwP ⟨(symB l).toArray⟩ w) := by
  have b0 : Below w.heap.size w (w.alloc (rbox 8 n s (.pointer (some ⟨q, 0, none⟩)))) := (Below.refl _ _).alloc (Nat.le_refl _) _
  have hq2 := hq.below b0 hq.lt
  have c4 : (w.alloc (rbox 8 n s (.pointer (some ⟨q, 0, none⟩)))).cell? ⟨q, 4, none⟩ = some (.int .i64 7) := by rw [hq2.cell]; rfl
  have c6 : (w.alloc (rbox 8 n s (.pointer (some ⟨q, 0, none⟩)))).cell? ⟨q, 6, none⟩ = some (.string (Tx.uS l)) := by rw [hq2.cell]; rfl
  have HB := Lib.hid b0
  have HF := Lib.hid (And.intro hf hl)
  have hg := goU_len l
  obtain ⟨gl, hgl⟩ : ∃ g, goU l = g := ⟨_, rfl⟩
  have hsy : symB l = [83, 121, 109, 98, 111, 108, 40] ++ gl ++ [41] := by unfold symB; rw [hgl]
  rw [hgl] at hg
  rw [hsy]
  have HGL := Lib.hid hgl
  have t1 : ¬ 9223372036854775807 < 7 + gl.length := by omega
  have t2 : ¬ 9223372036854775807 < 7 + gl.length + 1 := by omega
  have t3 : ¬ 9223372036854775807 < gl.length + 1 + 1 + 1 + 1 + 1 + 1 + 1 := by omega
  have t4 : ¬ 9223372036854775807 < gl.length + 1 + 1 + 1 + 1 + 1 + 1 + 1 + 1 := by omega
  clear b0 hf hl hq hq2 hg hgl hsy
  go_enter Tryz.func22, Tryz.ntmps22
  go_wp2_with (fail)
  refine (rgo_list l HF.out.1 (by have := HF.out.2; omega) _).mono ?_
  rintro e w3 ⟨a, cap, rfl, hR, b3⟩
  have HB3 := Lib.hid (And.intro (HB.out.trans (b3.mono HB.out.size)) hR)
  clear b3 HB hR c4 c6
  go_wp2_with (fail)
  refine (rgo_any a cap l w3 HB3.out.2 HF.out.1 (by have := HF.out.2; omega)).mono ?_
  rintro e w4 ⟨rfl, b4⟩
  have HB4 := Lib.hid (HB3.out.1.trans (b4.mono HB3.out.1.size))
  rw [HGL.out]
  clear b4 HB3
  go_wp2_with (fail)
  go_ret
  exact ⟨congrArg (fun b => Ending.returned (.string b)) (ByteArray.ext (by first | rfl | (apply Array.ext'; simp [ByteArray.data_append]))), HB4.out⟩
set_option maxRecDepth 100000 in
set_option maxHeartbeats 4000000 in
theorem rwhole_obj (n : Int) (s g : ByteArray) (p : Value) (d : Int) (w : World) (hO : ∀ W, Below w.heap.size w W → Calls Tryz.prog 35 #[p, .int .i64 d] W (ShwP g W)) :
    Calls Tryz.prog 22 #[VR 9 n s p, .int .i64 d] w (ShwP g w) := by
  have b0 : Below w.heap.size w (w.alloc (rbox 9 n s p)) := (Below.refl _ _).alloc (Nat.le_refl _) _
  have HO := Lib.hid (hO _ b0)
  have HB := Lib.hid b0
  clear hO b0
  go_enter Tryz.func22, Tryz.ntmps22
  go_wp2_with (fail)
  refine HO.out.mono ?_
  rintro e w1 ⟨rfl, b1⟩
  have HB1 := Lib.hid (HB.out.trans (b1.mono HB.out.size))
  clear b1 HO HB
  go_wp2
  go_ret
  exact ⟨rfl, HB1.out⟩
set_option maxRecDepth 100000 in
set_option maxHeartbeats 4000000 in
theorem rShow_any (k n : Int) (s g : ByteArray) (p : Value) (d : Int) (hg : g.size ≤ 16384) (w : World) (hS : ∀ W, Below w.heap.size w W → Calls Tryz.prog 22 #[VR k n s p, .int .i64 d] W (ShwP g W)) :
    Calls Tryz.prog 10 #[VR k n s p, .int .i64 d] w (ShwP g w) := by
  have b0 : Below w.heap.size w (w.alloc (rbox k n s p)) := (Below.refl _ _).alloc (Nat.le_refl _) _
  have HS := Lib.hid (hS _ b0)
  have HB := Lib.hid b0
  clear hS b0
  go_enter Tryz.func10, Tryz.ntmps10
  go_wp2_with (fail)
  refine HS.out.mono ?_
  rintro e w1 ⟨rfl, b1⟩
  have HB1 := Lib.hid (HB.out.trans (b1.mono HB.out.size))
  clear b1 HS HB
  go_wp2_with (fail)
  refine (rcut_any g hg _).mono ?_
  rintro e w2 ⟨rfl, b2⟩
  have HB2 := Lib.hid (HB1.out.trans (b2.mono HB1.out.size))
  clear b2 HB1
  go_wp2
  go_ret
  exact ⟨rfl, HB2.out⟩
end Go.Proofs.YtdeboajjhpecbaaGreatDoor.Hp

/- Show: the document's showObj. -/
set_option linter.unusedVariables false
set_option linter.unusedSimpArgs false
namespace Go.Proofs.YtdeboajjhpecbaaGreatDoor.Hp
open Go.RowKit Go.Proofs.YtdeboajjhpecbaaGreatDoor Go.Shelf
set_option maxRecDepth 100000 in
set_option maxHeartbeats 4000000 in
theorem robj_c0 (q : Nat) (d : Int) (w : World) (hd : decide (d > 8) = false) (hq : Blk w q 46 (robC ⟨#[79, 98, 106, 101, 99, 116]⟩ nilS 0 0 ⟨#[]⟩)) : Calls Tryz.prog 35 #[.pointer (some ⟨q, 0, none⟩), .int .i64 d] w (ShwP ⟨(91 :: (cnB 0 ++ [93])).toArray⟩ w) := by
  have c0 : w.cell? ⟨q, 0, none⟩ = some (.string ⟨#[79, 98, 106, 101, 99, 116]⟩) := by rw [hq.cell]; rfl
  have HQ := Lib.hid hq
  clear hq
  go_enter Tryz.func35, Tryz.ntmps35
  go_wp2
  go_ret
  exact ⟨rfl, Below.refl _ _⟩
set_option maxRecDepth 100000 in
set_option maxHeartbeats 4000000 in
theorem robj_c3 (q : Nat) (d : Int) (w : World) (hd : decide (d > 8) = false) (hq : Blk w q 46 (robC ⟨#[77, 97, 112]⟩ nilS 0 0 ⟨#[]⟩)) : Calls Tryz.prog 35 #[.pointer (some ⟨q, 0, none⟩), .int .i64 d] w (ShwP ⟨(91 :: (cnB 3 ++ [93])).toArray⟩ w) := by
  have c0 : w.cell? ⟨q, 0, none⟩ = some (.string ⟨#[77, 97, 112]⟩) := by rw [hq.cell]; rfl
  have HQ := Lib.hid hq
  clear hq
  go_enter Tryz.func35, Tryz.ntmps35
  go_wp2
  go_ret
  exact ⟨rfl, Below.refl _ _⟩
set_option maxRecDepth 100000 in
set_option maxHeartbeats 4000000 in
theorem robj_c4 (q : Nat) (d : Int) (w : World) (hd : decide (d > 8) = false) (hq : Blk w q 46 (robC ⟨#[83, 101, 116]⟩ nilS 0 0 ⟨#[]⟩)) : Calls Tryz.prog 35 #[.pointer (some ⟨q, 0, none⟩), .int .i64 d] w (ShwP ⟨(91 :: (cnB 4 ++ [93])).toArray⟩ w) := by
  have c0 : w.cell? ⟨q, 0, none⟩ = some (.string ⟨#[83, 101, 116]⟩) := by rw [hq.cell]; rfl
  have HQ := Lib.hid hq
  clear hq
  go_enter Tryz.func35, Tryz.ntmps35
  go_wp2
  go_ret
  exact ⟨rfl, Below.refl _ _⟩
set_option maxRecDepth 100000 in
set_option maxHeartbeats 4000000 in
theorem robj_c6 (q : Nat) (d : Int) (w : World) (hd : decide (d > 8) = false) (hq : Blk w q 46 (robC ⟨#[87, 101, 97, 107, 77, 97, 112]⟩ nilS 0 0 ⟨#[]⟩)) : Calls Tryz.prog 35 #[.pointer (some ⟨q, 0, none⟩), .int .i64 d] w (ShwP ⟨(91 :: (cnB 6 ++ [93])).toArray⟩ w) := by
  have c0 : w.cell? ⟨q, 0, none⟩ = some (.string ⟨#[87, 101, 97, 107, 77, 97, 112]⟩) := by rw [hq.cell]; rfl
  have HQ := Lib.hid hq
  clear hq
  go_enter Tryz.func35, Tryz.ntmps35
  go_wp2
  go_ret
  exact ⟨rfl, Below.refl _ _⟩
set_option maxRecDepth 100000 in
set_option maxHeartbeats 4000000 in
theorem robj_c7 (q : Nat) (d : Int) (w : World) (hd : decide (d > 8) = false) (hq : Blk w q 46 (robC ⟨#[87, 101, 97, 107, 83, 101, 116]⟩ nilS 0 0 ⟨#[]⟩)) : Calls Tryz.prog 35 #[.pointer (some ⟨q, 0, none⟩), .int .i64 d] w (ShwP ⟨(91 :: (cnB 7 ++ [93])).toArray⟩ w) := by
  have c0 : w.cell? ⟨q, 0, none⟩ = some (.string ⟨#[87, 101, 97, 107, 83, 101, 116]⟩) := by rw [hq.cell]; rfl
  have HQ := Lib.hid hq
  clear hq
  go_enter Tryz.func35, Tryz.ntmps35
  go_wp2
  go_ret
  exact ⟨rfl, Below.refl _ _⟩
set_option maxRecDepth 100000 in
set_option maxHeartbeats 4000000 in
theorem robj_c8 (q : Nat) (d : Int) (w : World) (hd : decide (d > 8) = false) (hq : Blk w q 46 (robC ⟨#[87, 101, 97, 107, 82, 101, 102]⟩ nilS 0 0 ⟨#[]⟩)) : Calls Tryz.prog 35 #[.pointer (some ⟨q, 0, none⟩), .int .i64 d] w (ShwP ⟨(91 :: (cnB 8 ++ [93])).toArray⟩ w) := by
  have c0 : w.cell? ⟨q, 0, none⟩ = some (.string ⟨#[87, 101, 97, 107, 82, 101, 102]⟩) := by rw [hq.cell]; rfl
  have HQ := Lib.hid hq
  clear hq
  go_enter Tryz.func35, Tryz.ntmps35
  go_wp2
  go_ret
  exact ⟨rfl, Below.refl _ _⟩
set_option maxRecDepth 100000 in
set_option maxHeartbeats 4000000 in
theorem robj_c9 (q : Nat) (d : Int) (w : World) (hd : decide (d > 8) = false) (hq : Blk w q 46 (robC ⟨#[70, 105, 110, 97, 108, 105, 122, 97, 116, 105, 111, 110, 82, 101, 103, 105, 115, 116, 114, 121]⟩ nilS 0 0 ⟨#[]⟩)) : Calls Tryz.prog 35 #[.pointer (some ⟨q, 0, none⟩), .int .i64 d] w (ShwP ⟨(91 :: (cnB 9 ++ [93])).toArray⟩ w) := by
  have c0 : w.cell? ⟨q, 0, none⟩ = some (.string ⟨#[70, 105, 110, 97, 108, 105, 122, 97, 116, 105, 111, 110, 82, 101, 103, 105, 115, 116, 114, 121]⟩) := by rw [hq.cell]; rfl
  have HQ := Lib.hid hq
  clear hq
  go_enter Tryz.func35, Tryz.ntmps35
  go_wp2
  go_ret
  exact ⟨rfl, Below.refl _ _⟩
set_option maxRecDepth 100000 in
set_option maxHeartbeats 4000000 in
theorem robj_c10 (q : Nat) (d : Int) (w : World) (hd : decide (d > 8) = false) (hq : Blk w q 46 (robC ⟨#[71, 101, 110, 101, 114, 97, 116, 111, 114]⟩ nilS 0 0 ⟨#[]⟩)) : Calls Tryz.prog 35 #[.pointer (some ⟨q, 0, none⟩), .int .i64 d] w (ShwP ⟨(91 :: (cnB 10 ++ [93])).toArray⟩ w) := by
  have c0 : w.cell? ⟨q, 0, none⟩ = some (.string ⟨#[71, 101, 110, 101, 114, 97, 116, 111, 114]⟩) := by rw [hq.cell]; rfl
  have HQ := Lib.hid hq
  clear hq
  go_enter Tryz.func35, Tryz.ntmps35
  go_wp2
  go_ret
  exact ⟨rfl, Below.refl _ _⟩
set_option maxRecDepth 100000 in
set_option maxHeartbeats 4000000 in
theorem robj_c11 (q : Nat) (d : Int) (w : World) (hd : decide (d > 8) = false) (hq : Blk w q 46 (robC ⟨#[80, 114, 111, 109, 105, 115, 101]⟩ nilS 0 0 ⟨#[]⟩)) : Calls Tryz.prog 35 #[.pointer (some ⟨q, 0, none⟩), .int .i64 d] w (ShwP ⟨(91 :: (cnB 11 ++ [93])).toArray⟩ w) := by
  have c0 : w.cell? ⟨q, 0, none⟩ = some (.string ⟨#[80, 114, 111, 109, 105, 115, 101]⟩) := by rw [hq.cell]; rfl
  have HQ := Lib.hid hq
  clear hq
  go_enter Tryz.func35, Tryz.ntmps35
  go_wp2
  go_ret
  exact ⟨rfl, Below.refl _ _⟩
/-- The class's name as the document has it. -/
def clB (c : Nat) : ByteArray := ⟨(cnB c).toArray⟩
theorem robj_cls (c : Nat) (hc : OkT (.ob c)) (q : Nat) (d : Int) (w : World) (hd : decide (d > 8) = false) (hq : Blk w q 46 (robC (clB c) nilS 0 0 ⟨#[]⟩)) :
    Calls Tryz.prog 35 #[.pointer (some ⟨q, 0, none⟩), .int .i64 d] w (ShwP ⟨(91 :: (cnB c ++ [93])).toArray⟩ w) := by
  rcases hc with rfl | rfl | rfl | rfl | rfl | rfl | rfl | rfl | rfl
  · exact robj_c0 q d w hd hq
  · exact robj_c3 q d w hd hq
  · exact robj_c4 q d w hd hq
  · exact robj_c6 q d w hd hq
  · exact robj_c7 q d w hd hq
  · exact robj_c8 q d w hd hq
  · exact robj_c9 q d w hd hq
  · exact robj_c10 q d w hd hq
  · exact robj_c11 q d w hd hq
set_option maxRecDepth 100000 in
set_option maxHeartbeats 4000000 in
theorem robj_deep (q : Nat) (ev : Value) (d : Int) (w : World) (hd8 : decide (d > 8) = false) (hd : decide (d > 2) = true) (hq : Blk w q 46 (robC ⟨#[65, 114, 114, 97, 121]⟩ ev 0 0 ⟨#[]⟩)) :
    Calls Tryz.prog 35 #[.pointer (some ⟨q, 0, none⟩), .int .i64 d] w (ShwP ⟨dots.toArray⟩ w) := by
  have c0 : w.cell? ⟨q, 0, none⟩ = some (.string ⟨#[65, 114, 114, 97, 121]⟩) := by rw [hq.cell]; rfl
  have HQ := Lib.hid hq
  clear hq
  go_enter Tryz.func35, Tryz.ntmps35
  go_wp2
  go_ret
  exact ⟨rfl, Below.refl _ _⟩
set_option maxRecDepth 100000 in
set_option maxHeartbeats 8000000 in
theorem robj_arr {q n cap : Nat} {a : Option Addr} {L : List K4} {ss : List (List UInt8)} {d : Int} {w : World} (hd0 : 0 ≤ d) (hd : decide (d > 2) = false) (hq : Blk w q 46 (robC ⟨#[65, 114, 114, 97, 121]⟩ (.slice a n cap) 0 0 ⟨#[]⟩))
    (hL : L.length = n) (hE : ∀ (i : Nat) k, L[i]? = some k → ∃ g, a = some ⟨g, 0, none⟩ ∧ w.cell? ⟨g, i * 4, none⟩ = some (.int .i64 k.1) ∧ w.cell? ⟨g, i * 4 + 1, none⟩ = some (.int .i64 k.2.1) ∧ w.cell? ⟨g, i * 4 + 2, none⟩ = some (.string k.2.2.1) ∧ w.cell? ⟨g, i * 4 + 3, none⟩ = some k.2.2.2)
    (hl : ss.length = n) (hn : n ≤ 1000) (hsz : (jn ss).length ≤ 16000)
    (hS : ∀ (i : Nat) k, L[i]? = some k → ∀ W, Below w.heap.size w W → Calls Tryz.prog 10 #[VQ k, .int .i64 (d + 1)] W (ShwP ⟨(ss.getD i []).toArray⟩ W)) :
    Calls Tryz.prog 35 #[.pointer (some ⟨q, 0, none⟩), .int .i64 d] w (ShwP ⟨(brk ss).toArray⟩ w) := by
  have hd8 : decide (d > 8) = false := by have := of_decide_eq_false hd; simp; omega
  have c0 : w.cell? ⟨q, 0, none⟩ = some (.string ⟨#[65, 114, 114, 97, 121]⟩) := by rw [hq.cell]; rfl
  have HQ := Lib.hid hq
  have HE := Lib.hid hE
  have HL := Lib.hid (And.intro hl (And.intro hn hsz))
  have HLL := Lib.hid hL
  have HW := Lib.hid hS
  have ad : IntKind.i64.wrap (d + 1) = d + 1 := IntWalk.i64_in _ (by have := of_decide_eq_false hd; omega)
  clear hq hE hl hsz hS hL
  go_enter Tryz.func35, Tryz.ntmps35
  go_wp2_with (fail)
  go_loopw [5, 6] (fun s5 v wr => ∃ i : Nat, v = .int .i64 (i : Int) ∧ i ≤ n ∧ s5 = .string ⟨(91 :: jn (ss.take i)).toArray⟩ ∧ Hid (Below w.heap.size w wr)) (fun _ v _ => n - (intOf v).toNat)
  case atStart => exact ⟨0, rfl, Nat.zero_le _, rfl, Lib.hid (Below.refl _ _)⟩
  case round =>
    obtain ⟨i, rfl, hi0, rfl, HB⟩ := hrel
    have hq2 := HQ.out.below HB.out HQ.out.lt
    have c3 : wr.cell? ⟨q, 3, none⟩ = some (.slice a n cap) := by rw [hq2.cell]; rfl
    clear hq2
    by_cases hi : i < n
    · obtain ⟨k, hk⟩ : ∃ k, L[i]? = some k := ⟨_, List.getElem?_eq_getElem (by have := HLL.out; omega)⟩
      obtain ⟨k1, k2, k3, k4⟩ := k
      obtain ⟨g, rfl, f0, f1, f2, f3⟩ := HE.out i _ hk
      have q0 : wr.cell? ⟨g, i * 4, none⟩ = some (.int .i64 k1) := (HB.out.cell (World.block_lt_of_cell? w _ f0)).trans f0
      have q1 : wr.cell? ⟨g, i * 4 + 1, none⟩ = some (.int .i64 k2) := (HB.out.cell (World.block_lt_of_cell? w _ f1)).trans f1
      have q2 : wr.cell? ⟨g, i * 4 + 2, none⟩ = some (.string k3) := (HB.out.cell (World.block_lt_of_cell? w _ f2)).trans f2
      have q3 : wr.cell? ⟨g, i * 4 + 3, none⟩ = some k4 := (HB.out.cell (World.block_lt_of_cell? w _ f3)).trans f3
      have t3 : decide ((i : Int) < (n : Int)) = true := by simp; omega
      have z0 : (0 : Int) ≤ (i : Int) := by omega
      have z1 : (i : Int) < (n : Int) := by omega
      have ac : IntKind.i64.wrap ((i : Int) + 1) = (i : Int) + 1 := IntWalk.i64_in _ (by omega)
      have HW2 := Lib.hid (HW.out i _ hk)
      have hle := jn_len ss i
      have hle2 := jn_len ss (i + 1)
      have htk := jn_take ss i (by have := HL.out.1; omega)
      obtain ⟨b1, hb1⟩ : ∃ b1, jn (ss.take i) = b1 := ⟨_, rfl⟩
      obtain ⟨b2, hb2⟩ : ∃ b2, ss.getD i [] = b2 := ⟨_, rfl⟩
      rw [hb1, hb2] at htk
      rw [hb1] at hle ⊢
      rw [hb2] at HW2
      have hlen := congrArg List.length htk
      simp only [List.length_append] at hlen
      have HT := Lib.hid (And.intro htk hb1)
      have hx1 : b1.length ≤ 16000 := by have := HL.out; omega
      have hx2 : b1.length + b2.length ≤ 16000 := by have := HL.out; omega
      have hx3 : 0 < i → b1.length + 2 + b2.length ≤ 16000 := fun h => by
        rw [if_pos h] at hlen
        have := HL.out
        simp at hlen; omega
      have HX := Lib.hid (And.intro hx2 hx3)
      have t5 : decide (((b1.length + 1 : Nat) : Int) ≤ 16384) = true := by simp; omega
      have t5' : decide ((b1.length : Int) + 1 ≤ 16384) = true := by simp; omega
      clear f0 f1 f2 f3 hk hle hle2 htk hb1 hb2 hlen hx2 hx3
      by_cases h0 : 0 < i
      · have t6 : decide ((i : Int) > 0) = true := by simp; omega
        have hx3 := HX.out.2 h0
        have a1 : ¬ 9223372036854775807 < b1.length + 1 + 2 := by omega
        have a2 : ¬ 9223372036854775807 < b1.length + 1 + 2 + b2.length := by omega
        have a3 : ¬ 9223372036854775807 < b1.length + 2 + 1 := by omega
        have a4 : ¬ 9223372036854775807 < b1.length + (1 + 1) + 1 + b2.length := by omega
        have a5 : ¬ 9223372036854775807 < b1.length + 2 + 1 + b2.length := by omega
        have HX0 := Lib.hid h0
        clear h0
        go_wp2_with (fail)
        refine (HW2.out wr HB.out).mono ?_
        rintro e w5 ⟨rfl, b5⟩
        have HB5 := Lib.hid (HB.out.trans (b5.mono HB.out.size))
        clear b5 q0 q1 q2 q3 c3
        go_wp2_with (fail)
        go_roundw
        case rel => exact ⟨i + 1, rfl, by omega, (by rw [HT.out.1]; rw [if_pos HX0.out]; exact congrArg Value.string (ByteArray.ext (by first | rfl | (apply Array.ext'; simp [ByteArray.data_append])))), HB5⟩
        case measure => simp [intOf]; omega
      · have t6 : decide ((i : Int) > 0) = false := by simp; omega
        have a2 : ¬ 9223372036854775807 < b1.length + 1 + b2.length := by have := HX.out; omega
        have HX0 := Lib.hid h0
        clear h0
        go_wp2_with (fail)
        refine (HW2.out wr HB.out).mono ?_
        rintro e w5 ⟨rfl, b5⟩
        have HB5 := Lib.hid (HB.out.trans (b5.mono HB.out.size))
        clear b5 q0 q1 q2 q3 c3
        go_wp2_with (fail)
        go_roundw
        case rel => exact ⟨i + 1, rfl, by omega, (by rw [HT.out.1]; rw [if_neg HX0.out]; exact congrArg Value.string (ByteArray.ext (by first | rfl | (apply Array.ext'; simp [ByteArray.data_append])))), HB5⟩
        case measure => simp [intOf]; omega
    · have hin : i = n := by omega
      have t3 : decide ((i : Int) < (n : Int)) = false := by simp; omega
      have hx : ss.take i = ss := List.take_of_length_le (by have := HL.out.1; omega)
      rw [hx]
      have t7 : ¬ 9223372036854775807 < (jn ss).length + 1 + 1 := by have := HL.out.2.2; omega
      go_wp2_with (fail)
      go_ret
      exact ⟨congrArg (fun b => Ending.returned (.string b)) (ByteArray.ext (by first | rfl | (apply Array.ext'; simp [brk, ByteArray.data_append]))), HB.out⟩
end Go.Proofs.YtdeboajjhpecbaaGreatDoor.Hp

/- Show: a tree of the document's in memory, and how it is printed. -/
set_option linter.unusedVariables false
set_option linter.unusedSimpArgs false
namespace Go.Proofs.YtdeboajjhpecbaaGreatDoor.Hp
open Go.RowKit Go.Proofs.YtdeboajjhpecbaaGreatDoor Go.Shelf
abbrev arrS : ByteArray := ⟨#[65, 114, 114, 97, 121]⟩
abbrev symS : ByteArray := ⟨#[115, 121, 109, 98, 111, 108]⟩
def valsR (L : List K4) : List Value := L.flatMap fun k => [.int .i64 k.1, .int .i64 k.2.1, .string k.2.2.1, k.2.2.2]
theorem valsR_cons (k : K4) (L : List K4) : valsR (k :: L) = .int .i64 k.1 :: .int .i64 k.2.1 :: .string k.2.2.1 :: k.2.2.2 :: valsR L := by simp [valsR]
theorem valsR_append (L M : List K4) : valsR (L ++ M) = valsR L ++ valsR M := by simp [valsR]
theorem valsR_length (L : List K4) : (valsR L).length = L.length * 4 := by
  induction L with
  | nil => rfl
  | cons k L ih => rw [valsR_cons]; simp [ih]; omega
theorem valsR_at (L : List K4) (i : Nat) (k : K4) (h : L[i]? = some k) : (valsR L)[i * 4]? = some (.int .i64 k.1) ∧ (valsR L)[i * 4 + 1]? = some (.int .i64 k.2.1) ∧ (valsR L)[i * 4 + 2]? = some (.string k.2.2.1) ∧ (valsR L)[i * 4 + 3]? = some k.2.2.2 := by
  induction L generalizing i with
  | nil => simp at h
  | cons x L ih =>
    rw [valsR_cons]
    cases i with
    | zero =>
      simp at h; subst h
      exact ⟨rfl, rfl, rfl, rfl⟩
    | succ i =>
      have := ih i (by simpa using h)
      rw [show (i + 1) * 4 = i * 4 + 1 + 1 + 1 + 1 by omega]
      exact this
/-- An array of the document's. -/
def ArrR (w : World) (E : Nat → Prop) (v : K4) (L : List K4) : Prop :=
  ∃ q a cap, v = (9, 0, ⟨#[]⟩, .pointer (some ⟨q, 0, none⟩)) ∧ Blk w q 46 (robC arrS (.slice a L.length cap) 0 0 ⟨#[]⟩) ∧ ¬ E q ∧
    (0 < L.length → ∃ g V, a = some ⟨g, 0, none⟩ ∧ Blk w g 33 V ∧ ¬ E g ∧ ∀ i, i < L.length * 4 → V[i]? = (valsR L)[i]?)
/-- A tree of the document's; E: blocks that are not its own. -/
def LiesR (w : World) (E : Nat → Prop) : Tr → K4 → Prop
  | .lf k n l, v => v = (k, n, Tx.uS l, nilP)
  | .sy l, v => ∃ q, v = (8, 0, ⟨#[]⟩, .pointer (some ⟨q, 0, none⟩)) ∧ Blk w q 46 (robC symS nilS 7 0 (Tx.uS l)) ∧ ¬ E q
  | .ob c, v => ∃ q, v = (9, 0, ⟨#[]⟩, .pointer (some ⟨q, 0, none⟩)) ∧ Blk w q 46 (robC (clB c) nilS 0 0 ⟨#[]⟩) ∧ ¬ E q
  | .ar0, v => ArrR w E v []
  | .ar1 a, v => ∃ x, ArrR w E v [x] ∧ LiesR w E a x
  | .ar2 a b, v => ∃ x y, ArrR w E v [x, y] ∧ LiesR w E a x ∧ LiesR w E b y
  | .ar3 a b c, v => ∃ x y z, ArrR w E v [x, y, z] ∧ LiesR w E a x ∧ LiesR w E b y ∧ LiesR w E c z
/-- Blocks of the document's that E does not name are kept. -/
def KpR (E : Nat → Prop) (w w' : World) : Prop := ∀ g t cs, Blk w g t cs → (t = 46 ∨ t = 33) → ¬ E g → Blk w' g t cs
theorem KpR.of_upd {E : Nat → Prop} {w w' : World} (u : Upd w w' E) : KpR E w w' := fun g t cs hb _ he => u.blk hb he
theorem KpR.of_below {E : Nat → Prop} {w w' : World} (b : Below w.heap.size w w') : KpR E w w' := fun g t cs hb _ _ => hb.below b hb.lt
theorem ArrR.keep {w w' : World} {E E' : Nat → Prop} {v : K4} {L : List K4} (h : ArrR w E v L) (hE : ∀ x, x < w.heap.size → E' x → E x) (hK : KpR E w w') : ArrR w' E' v L := by
  obtain ⟨q, a, cap, h1, h2, h3, h4⟩ := h
  refine ⟨q, a, cap, h1, hK _ _ _ h2 (by simp) h3, fun e => h3 (hE _ h2.lt e), fun hn => ?_⟩
  obtain ⟨g, V, e1, e2, e3, e4⟩ := h4 hn
  exact ⟨g, V, e1, hK _ _ _ e2 (by simp) e3, fun e => e3 (hE _ e2.lt e), e4⟩
theorem LiesR.keep {w w' : World} {E E' : Nat → Prop} (hE : ∀ x, x < w.heap.size → E' x → E x) (hK : KpR E w w') : ∀ {t : Tr} {v : K4}, LiesR w E t v → LiesR w' E' t v
  | .lf k n l, v, h => h
  | .sy l, v, h => by obtain ⟨q, h1, h2, h3⟩ := h; exact ⟨q, h1, hK _ _ _ h2 (by simp) h3, fun e => h3 (hE _ h2.lt e)⟩
  | .ob c, v, h => by obtain ⟨q, h1, h2, h3⟩ := h; exact ⟨q, h1, hK _ _ _ h2 (by simp) h3, fun e => h3 (hE _ h2.lt e)⟩
  | .ar0, v, h => ArrR.keep h hE hK
  | .ar1 a, v, h => by obtain ⟨x, h1, h2⟩ := h; exact ⟨x, h1.keep hE hK, h2.keep hE hK⟩
  | .ar2 a b, v, h => by obtain ⟨x, y, h1, h2, h3⟩ := h; exact ⟨x, y, h1.keep hE hK, h2.keep hE hK, h3.keep hE hK⟩
  | .ar3 a b c, v, h => by obtain ⟨x, y, z, h1, h2, h3, h4⟩ := h; exact ⟨x, y, z, h1.keep hE hK, h2.keep hE hK, h3.keep hE hK, h4.keep hE hK⟩
/-- The tables that a number's text wants. -/
def Tbs (w : World) : Prop := Vx.Tb w ∧ Vx.Ut w
theorem Tbs.below {w W : World} (h : Tbs w) (b : Below w.heap.size w W) : Tbs W := ⟨h.1.below b, h.2.below b⟩
theorem arr_show {w : World} {E : Nat → Prop} {v : K4} {L : List K4} {ss : List (List UInt8)} {d : Nat} (h : ArrR w E v L) (hl : ss.length = L.length) (hn : L.length ≤ 1000) (hsz : d ≤ 2 → (jn ss).length ≤ 16000) (hd3 : d ≤ 3)
    (hS : d ≤ 2 → ∀ (i : Nat) k, L[i]? = some k → ∀ W, Below w.heap.size w W → Calls Tryz.prog 10 #[VQ k, .int .i64 ((d : Int) + 1)] W (ShwP ⟨(ss.getD i []).toArray⟩ W)) :
    ∀ W, Below w.heap.size w W → Calls Tryz.prog 10 #[VQ v, .int .i64 (d : Int)] W (ShwP ⟨(if d > 2 then dots else brk ss).toArray⟩ W) := by
  intro W hW
  obtain ⟨q, a, cap, rfl, h2, h3, h4⟩ := h
  by_cases hd : d > 2
  · rw [if_pos hd]
    refine rShow_any 9 0 ⟨#[]⟩ _ _ _ (by decide) W (fun W2 h5 => rwhole_obj 0 ⟨#[]⟩ _ _ _ W2 (fun W3 h6 => ?_))
    exact robj_deep q _ _ W3 (by simp; omega) (by simp; omega) (h2.below (hW.trans ((h5.trans (h6.mono h5.size)).mono hW.size)) h2.lt)
  · rw [if_neg hd]
    have hsz2 := hsz (by omega)
    refine rShow_any 9 0 ⟨#[]⟩ _ _ _ (by show (brk ss).toArray.size ≤ _; rw [List.size_toArray]; simp only [brk, List.length_cons, List.length_append, List.length_nil]; omega) W (fun W2 h5 => rwhole_obj 0 ⟨#[]⟩ _ _ _ W2 (fun W3 h6 => ?_))
    have hb3 := hW.trans ((h5.trans (h6.mono h5.size)).mono hW.size)
    refine robj_arr (L := L) (by omega) (by simp; omega) (h2.below hb3 h2.lt) rfl (fun i k hk => ?_) hl hn hsz2 (fun i k hk W4 h7 => hS (by omega) i k hk W4 (hb3.trans (h7.mono hb3.size)))
    have hi : i < L.length := by
      rcases Nat.lt_or_ge i L.length with h | h
      · exact h
      · rw [List.getElem?_eq_none h] at hk; cases hk
    obtain ⟨g, V, rfl, e2, e3, e4⟩ := h4 (by omega)
    have e5 := e2.below hb3 e2.lt
    have hv := valsR_at L i k hk
    exact ⟨g, rfl, by rw [e5.cell, e4 _ (by omega)]; exact hv.1, by rw [e5.cell, e4 _ (by omega)]; exact hv.2.1, by rw [e5.cell, e4 _ (by omega)]; exact hv.2.2.1, by rw [e5.cell, e4 _ (by omega)]; exact hv.2.2.2⟩
theorem textF_lf (k n : Int) (l : List Nat) (h : OkLf k n l) (h10 : k ≠ 10) : Vx.textF k n (Tx.uS l) = (Tx.uS (ulF k n l), 0) := by
  unfold Vx.textF ulF
  by_cases h7 : k = 7
  · subst h7; rfl
  · have e7 : (k == 7) = false := by simpa using h7
    have e10 : (k == 10) = false := by simpa using h10
    rw [e7, h.k8, h.k9, e10, if_neg h7]
    rfl
theorem ulF_fits (k n : Int) (l : List Nat) (h : OkLf k n l) : Tx.Fits (ulF k n l) := by
  unfold ulF
  split
  · exact h.f
  · exact unitsOf_fits _
/-- How a tree of the document's is printed. -/
theorem lies_rshow {w : World} {E : Nat → Prop} (hT : Tbs w) : ∀ (t : Tr) (v : K4) (d : Nat), LiesR w E t v → OkT t → unT t ≤ 1000 → d ≤ 3 → ∀ W, Below w.heap.size w W → Calls Tryz.prog 10 #[VQ v, .int .i64 (d : Int)] W (ShwP ⟨(prT t d).toArray⟩ W)
  | .lf k n l, v, d, h, ok, hu, hd, W, hW => by
    obtain rfl : v = (k, n, Tx.uS l, nilP) := h
    show Calls _ _ _ W (ShwP ⟨(if k = 10 then [] else goU (ulF k n l)).toArray⟩ W)
    by_cases h10 : k = 10
    · subst h10
      rw [if_pos rfl]
      exact rShow_any 10 n _ _ _ _ (by decide) W (fun W2 h5 => rwhole_empty n _ _ _ W2)
    · rw [if_neg h10]
      have h1 := ulF_len k n l ok h10
      have h2 := goU_len (ulF k n l)
      have h3 : l.length ≤ 600 := ok.len
      refine rShow_any k n _ _ _ _ (by show (goU (ulF k n l)).toArray.size ≤ _; rw [List.size_toArray]; omega) W (fun W2 h5 => ?_)
      refine rwhole_lf k n 0 _ _ _ (ulF k n l) W2 ok.k8 ok.k9 (by simpa using h10) (ulF_fits k n l ok) (by omega) (fun W3 h6 => ?_)
      have hb := hW.trans ((h5.trans (h6.mono h5.size)).mono hW.size)
      have := Vx.rtext_any k n (Tx.uS l) W3 ok.v (hT.below hb).1 (hT.below hb).2
      rw [textF_lf k n l ok h10] at this
      exact this
  | .sy l, v, d, h, ok, hu, hd, W, hW => by
    obtain ⟨q, rfl, h2, h3⟩ := h
    have h1 := goU_len l
    have h4 : l.length ≤ 600 := ok.2
    refine rShow_any 8 0 _ _ _ _ (by show (symB l).toArray.size ≤ _; rw [List.size_toArray]; simp only [symB, List.length_append, List.length_cons, List.length_nil]; omega) W (fun W2 h5 => ?_)
    exact rwhole_sym 0 _ q _ l W2 (h2.below (hW.trans (h5.mono hW.size)) h2.lt) ok.1 (by omega)
  | .ob c, v, d, h, ok, hu, hd, W, hW => by
    obtain ⟨q, rfl, h2, h3⟩ := h
    have h1 := cnB_len c
    refine rShow_any 9 0 _ _ _ _ (by show (91 :: (cnB c ++ [93])).toArray.size ≤ _; rw [List.size_toArray]; simp only [List.length_append, List.length_cons, List.length_nil]; omega) W (fun W2 h5 => rwhole_obj 0 _ _ _ _ W2 (fun W3 h6 => ?_))
    exact robj_cls c ok q _ W3 (by simp; omega) (h2.below (hW.trans ((h5.trans (h6.mono h5.size)).mono hW.size)) h2.lt)
  | .ar0, v, d, h, ok, hu, hd, W, hW => arr_show h (ss := []) rfl (by simp) (fun _ => by decide) hd (fun _ i k hk => by simp at hk) W hW
  | .ar1 a, v, d, h, ok, hu, hd, W, hW => by
    obtain ⟨x, h1, h2⟩ := h
    have hu' : unT a ≤ 1000 := hu
    have l1 := prT_len a (d + 1) ok
    have hl := lenC_lo d
    refine arr_show h1 (ss := [prT a (d + 1)]) rfl (by simp) (fun hd2 => ?_) hd (fun hd2 i k hk W2 h5 => ?_) W hW
    · have := lenC_step d (by omega)
      have c0 : lenC d ≤ 7400 := by match d, hd2 with | 0, _ => decide | 1, _ => decide | 2, _ => decide
      show (prT a (d + 1)).length ≤ _; omega
    · match i, hk with
      | 0, hk =>
        simp at hk; subst hk
        exact lies_rshow hT a x (d + 1) h2 ok hu' (by omega) W2 h5
  | .ar2 a b, v, d, h, ok, hu, hd, W, hW => by
    obtain ⟨x, y, h1, h2, h3⟩ := h
    have hu' : unT a + unT b ≤ 1000 := hu
    have l1 := prT_len a (d + 1) ok.1
    have l2 := prT_len b (d + 1) ok.2
    refine arr_show h1 (ss := [prT a (d + 1), prT b (d + 1)]) rfl (by simp) (fun hd2 => ?_) hd (fun hd2 i k hk W2 h5 => ?_) W hW
    · have := lenC_step d (by omega)
      have c0 : lenC d ≤ 7400 := by match d, hd2 with | 0, _ => decide | 1, _ => decide | 2, _ => decide
      show (prT a (d + 1) ++ [44, 32] ++ prT b (d + 1)).length ≤ _
      simp only [List.length_append, List.length_cons, List.length_nil]; omega
    · match i, hk with
      | 0, hk =>
        simp at hk; subst hk
        exact lies_rshow hT a x (d + 1) h2 ok.1 (by omega) (by omega) W2 h5
      | 1, hk =>
        simp at hk; subst hk
        exact lies_rshow hT b y (d + 1) h3 ok.2 (by omega) (by omega) W2 h5
  | .ar3 a b c, v, d, h, ok, hu, hd, W, hW => by
    obtain ⟨x, y, z, h1, h2, h3, h4⟩ := h
    have hu' : unT a + unT b + unT c ≤ 1000 := hu
    have l1 := prT_len a (d + 1) ok.1
    have l2 := prT_len b (d + 1) ok.2.1
    have l3 := prT_len c (d + 1) ok.2.2
    refine arr_show h1 (ss := [prT a (d + 1), prT b (d + 1), prT c (d + 1)]) rfl (by simp) (fun hd2 => ?_) hd (fun hd2 i k hk W2 h5 => ?_) W hW
    · have := lenC_step d (by omega)
      have c0 : lenC d ≤ 7400 := by match d, hd2 with | 0, _ => decide | 1, _ => decide | 2, _ => decide
      show (prT a (d + 1) ++ [44, 32] ++ (prT b (d + 1) ++ [44, 32] ++ prT c (d + 1))).length ≤ _
      simp only [List.length_append, List.length_cons, List.length_nil]; omega
    · match i, hk with
      | 0, hk =>
        simp at hk; subst hk
        exact lies_rshow hT a x (d + 1) h2 ok.1 (by omega) (by omega) W2 h5
      | 1, hk =>
        simp at hk; subst hk
        exact lies_rshow hT b y (d + 1) h3 ok.2.1 (by omega) (by omega) W2 h5
      | 2, hk =>
        simp at hk; subst hk
        exact lies_rshow hT c z (d + 1) h4 ok.2.2 (by omega) (by omega) W2 h5
end Go.Proofs.YtdeboajjhpecbaaGreatDoor.Hp
