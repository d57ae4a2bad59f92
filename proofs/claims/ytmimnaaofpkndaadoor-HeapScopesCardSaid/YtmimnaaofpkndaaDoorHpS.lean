/- The heap: an array's own properties. -/
import Derived.Test.YtmimnaaofpkndaaDoorHpR
set_option linter.unusedVariables false
set_option linter.unusedSimpArgs false
namespace Go.Proofs.YtmimnaaofpkndaaDoor.Hp
open Go.RowKit Go.Proofs.YtmimnaaofpkndaaDoor Go.Shelf

theorem valsC_length (L : List K3) : (valsC L).length = L.length * 3 := by
  induction L with
  | nil => rfl
  | cons k L ih =>
    have h1 : valsC (k :: L) = .int .i64 k.1 :: .int .i64 k.2.1 :: .string k.2.2 :: valsC L := by simp [valsC]
    rw [h1]; simp [ih]; omega
theorem own_elem {W : World} {B g n cap : Nat} {L : List K3} (h : W.ownsRow B 34 3 (.slice (some ⟨g, 0, none⟩) n cap) L.length (valsC L)) (i : Nat) (k : K3) (hk : L[i]? = some k) (j : Nat) (hj : j < 3) : W.cell? ⟨g, i * 3 + j, none⟩ = ([.int .i64 k.1, .int .i64 k.2.1, .string k.2.2] : List Value)[j]? := by
  have hi : i < L.length := (List.getElem?_eq_some_iff.1 hk).1
  obtain ⟨A, c, hA, _⟩ := own_shape h
  have hn : n = L.length := by injection hA
  rw [hn] at h
  rw [h.cellAt (i * 3 + j) (by omega), valsC_get L i j k hk hj]
theorem lenK_idx : idxV 1 lenK = -1 := by
  unfold idxV
  rw [if_pos ⟨rfl, rfl⟩, ← keyL_len, keyL_idx _ (by decide)]
  rfl

set_option maxRecDepth 100000 in
set_option maxHeartbeats 2000000 in
theorem own_at (b T B : Nat) (lv : Value) (L : List K3) (i : Nat) (k x : K3) (w : World) (h : ArrE w b T B lv L) (hk : idxV 1 k = (i : Int)) (hx : L[i]? = some x) (h10 : x.1 ≠ 10) (hsz : k.2.2.size ≤ 4000) (hL : L.length ≤ 1000) :
    Calls Tryd.prog 18 #[.pointer (some ⟨b, 0, none⟩), VK k] w fun e w' => e = .returned (.tuple #[VK x, .int .i64 7, .bool true]) ∧ Below w.heap.size w w' := by
  have H := Lib.hid h
  obtain ⟨k1, k2, k3⟩ := k
  dsimp only at hsz
  clear h
  have bb : Below w.heap.size w ((w.alloc (.cells #[.int .i64 k1, .int .i64 k2, .string k3] 34)).alloc (.cells #[.int .i64 0, .int .i64 0, .string ⟨#[]⟩] 34)) := ((Below.refl _ _).alloc (Nat.le_refl _) _).alloc (by simp) _
  have h2 := H.out.below bb
  have kb : Blk ((w.alloc (.cells #[.int .i64 k1, .int .i64 k2, .string k3] 34)).alloc (.cells #[.int .i64 0, .int .i64 0, .string ⟨#[]⟩] 34)) w.heap.size 34 #[.int .i64 k1, .int .i64 k2, .string k3] := (Blk.new w _ _).alloc _
  have rb : Blk ((w.alloc (.cells #[.int .i64 k1, .int .i64 k2, .string k3] 34)).alloc (.cells #[.int .i64 0, .int .i64 0, .string ⟨#[]⟩] 34)) (w.heap.size + 1) 34 #[.int .i64 0, .int .i64 0, .string ⟨#[]⟩] := by
    have := Blk.new (w.alloc (.cells #[.int .i64 k1, .int .i64 k2, .string k3] 34)) 34 #[.int .i64 0, .int .i64 0, .string ⟨#[]⟩]
    rwa [World.size_alloc] at this
  have hi := hindex_any b T 1 0 false lv nilP nilP nilS 0 (k1, k2, k3) _ h2.ob hsz
  rw [hk] at hi
  have HI := Lib.hid hi
  have HB := Lib.hid (And.intro bb (And.intro rb kb))
  clear hi hk bb h2 rb kb
  go_enter Tryd.func18, Tryd.ntmps18
  go_wp2_with (fail)
  refine HI.out.mono ?_
  rintro e w2 ⟨rfl, b2⟩
  obtain ⟨bb, rb, kb⟩ := HB.out
  have b02 := bb.trans (b2.mono bb.size)
  have o2 := H.out.below b02
  have rb2 := rb.below b2 rb.lt
  have kb2 := kb.below b2 kb.lt
  obtain ⟨n, hn⟩ : ∃ n, L.length = n := ⟨_, rfl⟩
  have hrow := o2.row
  obtain ⟨la, lcap, rfl, hla⟩ := own_shape hrow
  have hi3 : i < L.length := (List.getElem?_eq_some_iff.1 hx).1
  obtain ⟨g, rfl⟩ := hla (by omega)
  have e0 : w2.cell? ⟨g, i * 3, none⟩ = some (.int .i64 x.1) := own_elem hrow i x hx 0 (by decide)
  have e1 : w2.cell? ⟨g, i * 3 + 1, none⟩ = some (.int .i64 x.2.1) := own_elem hrow i x hx 1 (by decide)
  have e2 : w2.cell? ⟨g, i * 3 + 2, none⟩ = some (.string x.2.2) := own_elem hrow i x hx 2 (by decide)
  obtain ⟨x1, x2, x3⟩ := x
  dsimp only at e0 e1 e2 h10
  have o20 : w2.cell? ⟨b, 0, none⟩ = some (.int .i64 1) := by rw [o2.ob.cell]; rfl
  have o22 : w2.cell? ⟨b, 2, none⟩ = some (.bool false) := by rw [o2.ob.cell]; rfl
  have o4 : w2.cell? ⟨b, 4, none⟩ = some (.slice (some ⟨g, 0, none⟩) n lcap) := by rw [o2.ob.cell, ← hn]; rfl
  have q0 := rb2.frozen 0
  have q1 := rb2.frozen 1
  have q2 := rb2.frozen 2
  have y0 : w2.cell? ⟨w.heap.size + 1, 0, none⟩ = some (.int .i64 0) := by rw [rb2.cell]; rfl
  have y1 : w2.cell? ⟨w.heap.size + 1, 1, none⟩ = some (.int .i64 0) := by rw [rb2.cell]; rfl
  have y2 : w2.cell? ⟨w.heap.size + 1, 2, none⟩ = some (.string ⟨#[]⟩) := by rw [rb2.cell]; rfl
  have lr := rb2.lt
  have t1 : decide ((0 : Int) ≤ (i : Int)) = true := by simp
  have t2 : decide ((i : Int) < (n : Int)) = true := by simp; omega
  have z0 : (0 : Int) ≤ (i : Int) := by omega
  have z1 : (i : Int) < (n : Int) := by omega
  have t3 : (x1 != 10) = true := by simpa using h10
  have HB2 := Lib.hid b02
  have HN := Lib.hid hn
  clear bb rb b2 b02 o2 rb2 hn hrow HB HI kb kb2 hla hi3 hx h10 hL
  go_wp2
  refine bodyPost_ret (v := .tuple #[VS x1 x2 x3, .int .i64 7, .bool true]) (by simp [results, Tryd.results18, go_sem, y0, y1, y2, q0, q1, q2, lr]) rfl ⟨rfl, ?_⟩
  exact ((HB2.out.setCell (p := ⟨w.heap.size + 1, 0, none⟩) (by simp) _).setCell (p := ⟨w.heap.size + 1, 1, none⟩) (by simp) _).setCell (p := ⟨w.heap.size + 1, 2, none⟩) (by simp) _
set_option maxRecDepth 100000 in
set_option maxHeartbeats 2000000 in
theorem own_hole (b T B : Nat) (lv : Value) (L : List K3) (i : Nat) (k x : K3) (w : World) (h : ArrE w b T B lv L) (hk : idxV 1 k = (i : Int)) (hx : L[i]? = some x) (h10 : x.1 = 10) (hsz : k.2.2.size ≤ 4000) (hL : L.length ≤ 1000) :
    Calls Tryd.prog 18 #[.pointer (some ⟨b, 0, none⟩), VK k] w fun e w' => e = .returned (.tuple #[VK (0, 0, ⟨#[]⟩), .int .i64 0, .bool false]) ∧ Below w.heap.size w w' := by
  have H := Lib.hid h
  obtain ⟨k1, k2, k3⟩ := k
  dsimp only at hsz
  clear h
  have bb : Below w.heap.size w ((w.alloc (.cells #[.int .i64 k1, .int .i64 k2, .string k3] 34)).alloc (.cells #[.int .i64 0, .int .i64 0, .string ⟨#[]⟩] 34)) := ((Below.refl _ _).alloc (Nat.le_refl _) _).alloc (by simp) _
  have h2 := H.out.below bb
  have kb : Blk ((w.alloc (.cells #[.int .i64 k1, .int .i64 k2, .string k3] 34)).alloc (.cells #[.int .i64 0, .int .i64 0, .string ⟨#[]⟩] 34)) w.heap.size 34 #[.int .i64 k1, .int .i64 k2, .string k3] := (Blk.new w _ _).alloc _
  have rb : Blk ((w.alloc (.cells #[.int .i64 k1, .int .i64 k2, .string k3] 34)).alloc (.cells #[.int .i64 0, .int .i64 0, .string ⟨#[]⟩] 34)) (w.heap.size + 1) 34 #[.int .i64 0, .int .i64 0, .string ⟨#[]⟩] := by
    have := Blk.new (w.alloc (.cells #[.int .i64 k1, .int .i64 k2, .string k3] 34)) 34 #[.int .i64 0, .int .i64 0, .string ⟨#[]⟩]
    rwa [World.size_alloc] at this
  have hi := hindex_any b T 1 0 false lv nilP nilP nilS 0 (k1, k2, k3) _ h2.ob hsz
  rw [hk] at hi
  have HI := Lib.hid hi
  have HB := Lib.hid (And.intro bb (And.intro rb kb))
  clear hi hk bb h2 rb kb
  go_enter Tryd.func18, Tryd.ntmps18
  go_wp2_with (fail)
  refine HI.out.mono ?_
  rintro e w2 ⟨rfl, b2⟩
  obtain ⟨bb, rb, kb⟩ := HB.out
  have b02 := bb.trans (b2.mono bb.size)
  have o2 := H.out.below b02
  have rb2 := rb.below b2 rb.lt
  have kb2 := kb.below b2 kb.lt
  obtain ⟨n, hn⟩ : ∃ n, L.length = n := ⟨_, rfl⟩
  have hrow := o2.row
  obtain ⟨la, lcap, rfl, hla⟩ := own_shape hrow
  have hi3 : i < L.length := (List.getElem?_eq_some_iff.1 hx).1
  obtain ⟨g, rfl⟩ := hla (by omega)
  have e0 : w2.cell? ⟨g, i * 3, none⟩ = some (.int .i64 x.1) := own_elem hrow i x hx 0 (by decide)
  have e1 : w2.cell? ⟨g, i * 3 + 1, none⟩ = some (.int .i64 x.2.1) := own_elem hrow i x hx 1 (by decide)
  have e2 : w2.cell? ⟨g, i * 3 + 2, none⟩ = some (.string x.2.2) := own_elem hrow i x hx 2 (by decide)
  obtain ⟨x1, x2, x3⟩ := x
  dsimp only at e0 e1 e2 h10
  have o20 : w2.cell? ⟨b, 0, none⟩ = some (.int .i64 1) := by rw [o2.ob.cell]; rfl
  have o22 : w2.cell? ⟨b, 2, none⟩ = some (.bool false) := by rw [o2.ob.cell]; rfl
  have o4 : w2.cell? ⟨b, 4, none⟩ = some (.slice (some ⟨g, 0, none⟩) n lcap) := by rw [o2.ob.cell, ← hn]; rfl
  have q0 := rb2.frozen 0
  have q1 := rb2.frozen 1
  have q2 := rb2.frozen 2
  have y0 : w2.cell? ⟨w.heap.size + 1, 0, none⟩ = some (.int .i64 0) := by rw [rb2.cell]; rfl
  have y1 : w2.cell? ⟨w.heap.size + 1, 1, none⟩ = some (.int .i64 0) := by rw [rb2.cell]; rfl
  have y2 : w2.cell? ⟨w.heap.size + 1, 2, none⟩ = some (.string ⟨#[]⟩) := by rw [rb2.cell]; rfl
  have lr := rb2.lt
  have t1 : decide ((0 : Int) ≤ (i : Int)) = true := by simp
  have t2 : decide ((i : Int) < (n : Int)) = true := by simp; omega
  have z0 : (0 : Int) ≤ (i : Int) := by omega
  have z1 : (i : Int) < (n : Int) := by omega
  subst h10
  have HB2 := Lib.hid b02
  have HN := Lib.hid hn
  clear bb rb b2 b02 o2 rb2 hn hrow HB HI kb kb2 hla hi3 hx hL
  go_wp2
  refine bodyPost_ret (v := .tuple #[VS 0 0 ⟨#[]⟩, .int .i64 0, .bool false]) (by simp [results, Tryd.results18, go_sem, y0, y1, y2, q0, q1, q2, lr]) rfl ⟨rfl, ?_⟩
  exact ((HB2.out.setCell (p := ⟨w.heap.size + 1, 0, none⟩) (by simp) _).setCell (p := ⟨w.heap.size + 1, 1, none⟩) (by simp) _).setCell (p := ⟨w.heap.size + 1, 2, none⟩) (by simp) _
set_option maxRecDepth 100000 in
set_option maxHeartbeats 2000000 in
theorem own_out (b T B : Nat) (lv : Value) (L : List K3) (i : Nat) (k : K3) (w : World) (h : ArrE w b T B lv L) (hk : idxV 1 k = (i : Int)) (hx : L.length ≤ i) (hsz : k.2.2.size ≤ 4000) (hL : L.length ≤ 1000) :
    Calls Tryd.prog 18 #[.pointer (some ⟨b, 0, none⟩), VK k] w fun e w' => e = .returned (.tuple #[VK (0, 0, ⟨#[]⟩), .int .i64 0, .bool false]) ∧ Below w.heap.size w w' := by
  have H := Lib.hid h
  obtain ⟨k1, k2, k3⟩ := k
  dsimp only at hsz
  clear h
  have bb : Below w.heap.size w ((w.alloc (.cells #[.int .i64 k1, .int .i64 k2, .string k3] 34)).alloc (.cells #[.int .i64 0, .int .i64 0, .string ⟨#[]⟩] 34)) := ((Below.refl _ _).alloc (Nat.le_refl _) _).alloc (by simp) _
  have h2 := H.out.below bb
  have kb : Blk ((w.alloc (.cells #[.int .i64 k1, .int .i64 k2, .string k3] 34)).alloc (.cells #[.int .i64 0, .int .i64 0, .string ⟨#[]⟩] 34)) w.heap.size 34 #[.int .i64 k1, .int .i64 k2, .string k3] := (Blk.new w _ _).alloc _
  have rb : Blk ((w.alloc (.cells #[.int .i64 k1, .int .i64 k2, .string k3] 34)).alloc (.cells #[.int .i64 0, .int .i64 0, .string ⟨#[]⟩] 34)) (w.heap.size + 1) 34 #[.int .i64 0, .int .i64 0, .string ⟨#[]⟩] := by
    have := Blk.new (w.alloc (.cells #[.int .i64 k1, .int .i64 k2, .string k3] 34)) 34 #[.int .i64 0, .int .i64 0, .string ⟨#[]⟩]
    rwa [World.size_alloc] at this
  have hi := hindex_any b T 1 0 false lv nilP nilP nilS 0 (k1, k2, k3) _ h2.ob hsz
  rw [hk] at hi
  have HI := Lib.hid hi
  have HB := Lib.hid (And.intro bb (And.intro rb kb))
  clear hi hk bb h2 rb kb
  go_enter Tryd.func18, Tryd.ntmps18
  go_wp2_with (fail)
  refine HI.out.mono ?_
  rintro e w2 ⟨rfl, b2⟩
  obtain ⟨bb, rb, kb⟩ := HB.out
  have b02 := bb.trans (b2.mono bb.size)
  have o2 := H.out.below b02
  have rb2 := rb.below b2 rb.lt
  have kb2 := kb.below b2 kb.lt
  obtain ⟨n, hn⟩ : ∃ n, L.length = n := ⟨_, rfl⟩
  have hrow := o2.row
  obtain ⟨la, lcap, rfl, hla⟩ := own_shape hrow
  have o20 : w2.cell? ⟨b, 0, none⟩ = some (.int .i64 1) := by rw [o2.ob.cell]; rfl
  have o22 : w2.cell? ⟨b, 2, none⟩ = some (.bool false) := by rw [o2.ob.cell]; rfl
  have o4 : w2.cell? ⟨b, 4, none⟩ = some (.slice la n lcap) := by rw [o2.ob.cell, ← hn]; rfl
  have q0 := rb2.frozen 0
  have q1 := rb2.frozen 1
  have q2 := rb2.frozen 2
  have y0 : w2.cell? ⟨w.heap.size + 1, 0, none⟩ = some (.int .i64 0) := by rw [rb2.cell]; rfl
  have y1 : w2.cell? ⟨w.heap.size + 1, 1, none⟩ = some (.int .i64 0) := by rw [rb2.cell]; rfl
  have y2 : w2.cell? ⟨w.heap.size + 1, 2, none⟩ = some (.string ⟨#[]⟩) := by rw [rb2.cell]; rfl
  have lr := rb2.lt
  have t1 : decide ((0 : Int) ≤ (i : Int)) = true := by simp
  have t2 : decide ((i : Int) < (n : Int)) = false := by simp; omega
  have t4 : ¬ i < n := by omega
  have HB2 := Lib.hid b02
  have HN := Lib.hid hn
  clear bb rb b2 b02 o2 rb2 hn hrow HB HI kb kb2 hla hx hL
  go_wp2
  refine bodyPost_ret (v := .tuple #[VS 0 0 ⟨#[]⟩, .int .i64 0, .bool false]) (by simp [results, Tryd.results18, go_sem, y0, y1, y2, q0, q1, q2, lr]) rfl ⟨rfl, ?_⟩
  exact ((HB2.out.setCell (p := ⟨w.heap.size + 1, 0, none⟩) (by simp) _).setCell (p := ⟨w.heap.size + 1, 1, none⟩) (by simp) _).setCell (p := ⟨w.heap.size + 1, 2, none⟩) (by simp) _
set_option maxRecDepth 100000 in
set_option maxHeartbeats 2000000 in
theorem own_len (b T B : Nat) (lv : Value) (L : List K3)  (w : World) (h : ArrE w b T B lv L) (hLg : Lg w) (hL : L.length ≤ 1000) :
    Calls Tryd.prog 18 #[.pointer (some ⟨b, 0, none⟩), VK lenK] w fun e w' => e = .returned (.tuple #[VK (3, (L.length : Int), ⟨#[]⟩), .int .i64 1, .bool true]) ∧ Below w.heap.size w w' := by
  have H := Lib.hid h
  have hk := lenK_idx
  have hsz : lenK.2.2.size ≤ 4000 := by decide
  have HL := Lib.hid hLg
  obtain ⟨ks, hks⟩ : ∃ s, (⟨#[0, 108, 0, 101, 0, 110, 0, 103, 0, 116, 0, 104]⟩ : ByteArray) = s := ⟨_, rfl⟩
  have hkk : lenK = (7, 0, ks) := by rw [← hks]; rfl
  rw [hkk] at hk hsz ⊢
  obtain ⟨k1, hk1⟩ : ∃ k : Int, k = 7 := ⟨_, rfl⟩
  obtain ⟨k2, hk2⟩ : ∃ k : Int, k = 0 := ⟨_, rfl⟩
  obtain ⟨k3, hk3⟩ : ∃ k, k = ks := ⟨_, rfl⟩
  rw [← hk1, ← hk2, ← hk3] at hk hsz ⊢
  rw [← hk1, ← hk2, ← hk3] at hkk
  have HKK := Lib.hid (And.intro hkk (And.intro hk1 (And.intro hk2 hk3)))
  clear hkk hk1 hk2 hk3 hLg hks
  dsimp only at hsz
  clear h
  have bb : Below w.heap.size w ((w.alloc (.cells #[.int .i64 k1, .int .i64 k2, .string k3] 34)).alloc (.cells #[.int .i64 0, .int .i64 0, .string ⟨#[]⟩] 34)) := ((Below.refl _ _).alloc (Nat.le_refl _) _).alloc (by simp) _
  have h2 := H.out.below bb
  have kb : Blk ((w.alloc (.cells #[.int .i64 k1, .int .i64 k2, .string k3] 34)).alloc (.cells #[.int .i64 0, .int .i64 0, .string ⟨#[]⟩] 34)) w.heap.size 34 #[.int .i64 k1, .int .i64 k2, .string k3] := (Blk.new w _ _).alloc _
  have rb : Blk ((w.alloc (.cells #[.int .i64 k1, .int .i64 k2, .string k3] 34)).alloc (.cells #[.int .i64 0, .int .i64 0, .string ⟨#[]⟩] 34)) (w.heap.size + 1) 34 #[.int .i64 0, .int .i64 0, .string ⟨#[]⟩] := by
    have := Blk.new (w.alloc (.cells #[.int .i64 k1, .int .i64 k2, .string k3] 34)) 34 #[.int .i64 0, .int .i64 0, .string ⟨#[]⟩]
    rwa [World.size_alloc] at this
  have hi := hindex_any b T 1 0 false lv nilP nilP nilS 0 (k1, k2, k3) _ h2.ob hsz
  rw [hk] at hi
  have HI := Lib.hid hi
  have HB := Lib.hid (And.intro bb (And.intro rb kb))
  clear hi hk bb h2 rb kb
  go_enter Tryd.func18, Tryd.ntmps18
  go_wp2_with (fail)
  refine HI.out.mono ?_
  rintro e w2 ⟨rfl, b2⟩
  obtain ⟨bb, rb, kb⟩ := HB.out
  have b02 := bb.trans (b2.mono bb.size)
  have o2 := H.out.below b02
  have rb2 := rb.below b2 rb.lt
  have kb2 := kb.below b2 kb.lt
  obtain ⟨n, hn⟩ : ∃ n, L.length = n := ⟨_, rfl⟩
  have hrow := o2.row
  obtain ⟨la, lcap, rfl, hla⟩ := own_shape hrow
  have o20 : w2.cell? ⟨b, 0, none⟩ = some (.int .i64 1) := by rw [o2.ob.cell]; rfl
  have o22 : w2.cell? ⟨b, 2, none⟩ = some (.bool false) := by rw [o2.ob.cell]; rfl
  have o4 : w2.cell? ⟨b, 4, none⟩ = some (.slice la n lcap) := by rw [o2.ob.cell, ← hn]; rfl
  have q0 := rb2.frozen 0
  have q1 := rb2.frozen 1
  have q2 := rb2.frozen 2
  have y0 : w2.cell? ⟨w.heap.size + 1, 0, none⟩ = some (.int .i64 0) := by rw [rb2.cell]; rfl
  have y1 : w2.cell? ⟨w.heap.size + 1, 1, none⟩ = some (.int .i64 0) := by rw [rb2.cell]; rfl
  have y2 : w2.cell? ⟨w.heap.size + 1, 2, none⟩ = some (.string ⟨#[]⟩) := by rw [rb2.cell]; rfl
  have lr := rb2.lt
  have hg2 := HL.out.below b02
  have g0 : w2.cell? ⟨0, 0, none⟩ = some (.int .i64 k1) := by rw [HKK.out.2.1]; exact hg2.1
  have g1 : w2.cell? ⟨0, 1, none⟩ = some (.int .i64 k2) := by rw [HKK.out.2.2.1]; exact hg2.2.1
  have g2 : w2.cell? ⟨0, 2, none⟩ = some (.string k3) := by rw [hg2.2.2, show lenK.2.2 = k3 from congrArg (·.2.2) HKK.out.1]
  have p0 : w2.cell? ⟨w.heap.size, 0, none⟩ = some (.int .i64 k1) := by rw [kb2.cell]; rfl
  have p1 : w2.cell? ⟨w.heap.size, 1, none⟩ = some (.int .i64 k2) := by rw [kb2.cell]; rfl
  have p2 : w2.cell? ⟨w.heap.size, 2, none⟩ = some (.string k3) := by rw [kb2.cell]; rfl
  have s0 : (k1 == k1) = true := by simp
  have s1 : (k2 == k2) = true := by simp
  have s2 : (k3.toList == k3.toList) = true := by simp
  clear hg2 HL HKK
  have HB2 := Lib.hid b02
  have HN := Lib.hid hn
  clear bb rb b2 b02 o2 rb2 hn hrow HB HI kb kb2 hla hL
  go_wp2
  refine bodyPost_ret (v := .tuple #[VS 3 (n : Int) ⟨#[]⟩, .int .i64 1, .bool true]) (by simp [results, Tryd.results18, go_sem, y0, y1, y2, q0, q1, q2, lr]) rfl ⟨by rw [HN.out], ?_⟩
  exact ((HB2.out.setCell (p := ⟨w.heap.size + 1, 0, none⟩) (by simp) _).setCell (p := ⟨w.heap.size + 1, 1, none⟩) (by simp) _).setCell (p := ⟨w.heap.size + 1, 2, none⟩) (by simp) _
end Go.Proofs.YtmimnaaofpkndaaDoor.Hp
