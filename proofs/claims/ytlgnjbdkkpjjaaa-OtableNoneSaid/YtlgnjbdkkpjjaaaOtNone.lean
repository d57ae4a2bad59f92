/- The walk of the statement OtableNone. -/
import Derived.Test.YtlgnjbdkkpjjaaaOtN
set_option linter.unusedVariables false
set_option linter.unusedSimpArgs false
namespace Go.Proofs.Ytlgnjbdkkpjjaaa
open Go.RowKit Go.Sort

/-- A box more than the call has. -/
theorem box_two {w0 w : World} (b : Below w0.heap.size w0 w) (o o' : Obj) : Below w0.heap.size w0 ((w.alloc o).alloc o') := (b.alloc b.size _).alloc (by have := b.size; simp; omega) _

set_option maxHeartbeats 8000000 in
set_option maxRecDepth 100000 in
theorem none_core (K N : Int) (a : Option Addr) (n cap : Nat) (k : K3) (w : World) (hn : n ≤ 100)
    (CA : ∀ W, Below w.heap.size w W → Calls Try.prog 19 #[SeedV K N a n cap] W (Ret (VK k) W)) :
    Calls Try.prog 7 #[SeedV K N a n cap] w (Ret (.bool true) w) := by
  have HA := Lib.hid CA
  clear CA
  have hn' : ¬ ((n : Int) > 100) := by omega
  have b1 : Below w.heap.size w (w.alloc (.cells #[.int .i64 K, .int .i64 N, .slice a n cap] 42)) := (Below.refl _ _).alloc (Nat.le_refl _) _
  have KS := Blk.new w 42 #[.int .i64 K, .int .i64 N, .slice a n cap]
  go_enter Try.func7, Try.ntmps7
  go_wp2_with fail
  generalize (w.alloc (.cells #[.int .i64 K, .int .i64 N, .slice a n cap] 42)) = w1 at *
  refine (fit_any w1).mono ?_
  rintro e w2 ⟨rfl, b⟩
  have KS := KS.below b KS.lt
  have b2 := b1.trans (b.mono b1.size)
  clear b b1
  have x2 : w2.cell? ⟨w.heap.size, 2, none⟩ = some (.slice a n cap) := by rw [KS.cell]; rfl
  go_upto_region 7 with fail
  have x0 : w2.cell? ⟨w.heap.size, 0, none⟩ = some (.int .i64 K) := by rw [KS.cell]; rfl
  have x1 : w2.cell? ⟨w.heap.size, 1, none⟩ = some (.int .i64 N) := by rw [KS.cell]; rfl
  have Q0 := fun d os => cell_regrown x0 d os
  have Q1 := fun d os => cell_regrown x1 d os
  have Q2 := fun d os => cell_regrown x2 d os
  have up := fun d os => b2.trans ((below_regrown w2 d os).mono b2.size)
  have D1 := fun d os => Calls.regrown_of (HA.out (grow (redrawn w2 d) os) (up d os))
  have D2 := fun d os => Calls.regrown_of (put_none k k 1 (grow (redrawn w2 d) os))
  clear x0 x1 x2
  refine wp_region_quiet_below (by kernel_rfl) (by kernel_rfl) ?_
  repeat (first | go_big_quiet_step (first | with_reducible exact D1 _ _ | with_reducible exact D2 _ _) | quiet_step (first | with_reducible exact D1 _ _ | with_reducible exact D2 _ _))
  refine wpQuiet_nil ?_
  intro _ hw'
  obtain ⟨⟨dq, osq⟩, hw''⟩ := hw'
  subst hw''
  have b3 := up dq osq
  have KS := KS.below (below_regrown w2 dq osq) KS.lt
  clear D1 D2 up Q0 Q1 Q2 b2
  generalize grow (redrawn w2 dq) osq = w3 at *
  go_wp2_with fail
  refine (clear_none w3).mono ?_
  rintro e w4 ⟨rfl, b⟩
  have KS := KS.below b KS.lt
  have b4 := b3.trans (b.mono b3.size)
  have x0 : w4.cell? ⟨w.heap.size, 0, none⟩ = some (.int .i64 K) := by rw [KS.cell]; rfl
  have x1 : w4.cell? ⟨w.heap.size, 1, none⟩ = some (.int .i64 N) := by rw [KS.cell]; rfl
  have x2 : w4.cell? ⟨w.heap.size, 2, none⟩ = some (.slice a n cap) := by rw [KS.cell]; rfl
  clear b b3
  go_wp2_with fail
  refine (HA.out w4 b4).mono ?_
  rintro e w5 ⟨rfl, b⟩
  have KS := KS.below b KS.lt
  have b5 := b4.trans (b.mono b4.size)
  clear b b4 x0 x1 x2
  go_wp2_with fail
  refine (get_none k w5).mono ?_
  rintro e w6 ⟨rfl, b⟩
  have KS := KS.below b KS.lt
  have b6 := b5.trans (b.mono b5.size)
  clear b b5
  go_upto_region 10 with fail
  have b7 := b6.alloc b6.size (.cells #[.int .i64 0, .int .i64 0, .string ⟨#[]⟩] 27)
  have KS := KS.alloc (.cells #[.int .i64 0, .int .i64 0, .string ⟨#[]⟩] 27)
  clear b6
  generalize w6.alloc (.cells #[.int .i64 0, .int .i64 0, .string ⟨#[]⟩] 27) = w7 at *
  go_wp2_with fail
  refine (next_nil w7).mono ?_
  rintro e w8 ⟨rfl, b⟩
  have KS := KS.below b KS.lt
  have b8 := b7.trans (b.mono b7.size)
  clear b b7
  go_upto_region 11 with fail
  have b9 := box_two b8 (.cells #[.int .i64 0, .int .i64 0, .string ⟨#[]⟩] 27) (.cells #[.int .i64 0, .int .i64 0, .string ⟨#[]⟩] 27)
  have KS := (KS.alloc (.cells #[.int .i64 0, .int .i64 0, .string ⟨#[]⟩] 27)).alloc (.cells #[.int .i64 0, .int .i64 0, .string ⟨#[]⟩] 27)
  clear b8
  generalize (w8.alloc (.cells #[.int .i64 0, .int .i64 0, .string ⟨#[]⟩] 27)).alloc (.cells #[.int .i64 0, .int .i64 0, .string ⟨#[]⟩] 27) = w9 at *
  go_wp2_with fail
  refine (cursor_none w9).mono ?_
  rintro e w10 ⟨rfl, rfl⟩
  have KC := Blk.new w9 77 #[.pointer none, .int .i64 0]
  have KS := KS.alloc (.cells #[.pointer none, .int .i64 0] 77)
  have b10 := b9.alloc b9.size (.cells #[.pointer none, .int .i64 0] 77)
  clear b9
  generalize w9.alloc (.cells #[.pointer none, .int .i64 0] 77) = w10 at *
  go_wp2_with fail
  refine (next_shut w9.heap.size 0 w10 KC).mono ?_
  rintro e w11 ⟨rfl, b⟩
  have KS := KS.below b KS.lt
  have b11 := b10.trans (b.mono b10.size)
  clear b b10
  clear KC
  go_upto_region 12 with fail
  have b12 := box_two b11 (.cells #[.int .i64 0, .int .i64 0, .string ⟨#[]⟩] 27) (.cells #[.int .i64 0, .int .i64 0, .string ⟨#[]⟩] 27)
  have KS := (KS.alloc (.cells #[.int .i64 0, .int .i64 0, .string ⟨#[]⟩] 27)).alloc (.cells #[.int .i64 0, .int .i64 0, .string ⟨#[]⟩] 27)
  clear b11
  generalize (w11.alloc (.cells #[.int .i64 0, .int .i64 0, .string ⟨#[]⟩] 27)).alloc (.cells #[.int .i64 0, .int .i64 0, .string ⟨#[]⟩] 27) = w12 at *
  go_wp2_with fail
  refine (close_none w12).mono ?_
  rintro e w13 ⟨rfl, b⟩
  have KS := KS.below b KS.lt
  have b13 := b12.trans (b.mono b12.size)
  clear b b12
  have x0 : w13.cell? ⟨w.heap.size, 0, none⟩ = some (.int .i64 K) := by rw [KS.cell]; rfl
  have x1 : w13.cell? ⟨w.heap.size, 1, none⟩ = some (.int .i64 N) := by rw [KS.cell]; rfl
  have x2 : w13.cell? ⟨w.heap.size, 2, none⟩ = some (.slice a n cap) := by rw [KS.cell]; rfl
  go_wp2_with fail
  refine (HA.out w13 b13).mono ?_
  rintro e w14 ⟨rfl, b⟩
  have KS := KS.below b KS.lt
  have b14 := b13.trans (b.mono b13.size)
  clear b b13 x0 x1 x2
  go_wp2_with fail
  refine (delete_none k w14).mono ?_
  rintro e w15 ⟨rfl, b⟩
  have KS := KS.below b KS.lt
  have b15 := b14.trans (b.mono b14.size)
  clear b b14
  go_wp2_with fail
  refine (len_none w15).mono ?_
  rintro e w16 ⟨rfl, b⟩
  have KS := KS.below b KS.lt
  have b16 := b15.trans (b.mono b15.size)
  clear b b15
  go_wp2_with fail
  refine (storage_none w16).mono ?_
  rintro e w17 ⟨rfl, b⟩
  have KS := KS.below b KS.lt
  have b17 := b16.trans (b.mono b16.size)
  clear b b16
  go_wp2_with fail
  refine (open_none w17).mono ?_
  rintro e w18 ⟨rfl, b⟩
  have KS := KS.below b KS.lt
  have b18 := b17.trans (b.mono b17.size)
  clear b b17
  go_wp2
  go_ret
  exact ⟨by simp, b18⟩
set_option maxHeartbeats 1000000 in
theorem none_big (K N : Int) (a : Option Addr) (n cap : Nat) (w : World) (hn : 100 < n) :
    Calls Try.prog 7 #[SeedV K N a n cap] w (Ret (.bool true) w) := by
  have hn' : (n : Int) > 100 := by omega
  have b1 : Below w.heap.size w (w.alloc (.cells #[.int .i64 K, .int .i64 N, .slice a n cap] 42)) := (Below.refl _ _).alloc (Nat.le_refl _) _
  have KS := Blk.new w 42 #[.int .i64 K, .int .i64 N, .slice a n cap]
  go_enter Try.func7, Try.ntmps7
  go_wp2_with fail
  generalize (w.alloc (.cells #[.int .i64 K, .int .i64 N, .slice a n cap] 42)) = w1 at *
  refine (fit_any w1).mono ?_
  rintro e w2 ⟨rfl, b⟩
  have KS := KS.below b KS.lt
  have b2 := b1.trans (b.mono b1.size)
  clear b b1
  have x2 : w2.cell? ⟨w.heap.size, 2, none⟩ = some (.slice a n cap) := by rw [KS.cell]; rfl
  go_wp2
  go_ret
  exact ⟨by simp, b2⟩
theorem none_said (K N : Int) (a : Option Addr) (n cap : Nat) (zs : List Int) (w : World) (wK : (Lit.int .i64 K).wf = true) (wN : (Lit.int .i64 N).wf = true) (h : Tx.IsRow .u16 w a n cap zs) :
    Calls Try.prog 7 #[SeedV K N a n cap] w fun e w' => e = .returned (.bool true) ∧ Below w.heap.size w w' := by
  by_cases h1 : 100 < n
  · exact none_big K N a n cap w h1
  obtain ⟨u, hS, hf, hlu⟩ := Tx.units_in h
  obtain ⟨kk, hk, hK⟩ := seed_kk K
  exact none_core K N a n cap (kk, seedN kk N, Tx.uS (seedU kk u)) w (by omega) (fun W hW => seed_any K N a n cap u kk W (Lib.hid hK) hk (hS.below hW) hf (by omega))
end Go.Proofs.Ytlgnjbdkkpjjaaa
