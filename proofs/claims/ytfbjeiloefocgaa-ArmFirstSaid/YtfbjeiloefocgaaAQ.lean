import Derived.Test.YtfbjeiloefocgaaAP
/-! Fifo, near and cyclic, in full. -/
namespace Go.Proofs.Ytfbjeiloefocgaa.CC
open Go.RowKit Go.Proofs.Ytfbjeiloefocgaa.Fl Go.Proofs.Ytfbjeiloefocgaa.PL Go.Proofs.Ytfbjeiloefocgaa.PG Go.Proofs.YtfbjeiloefocgaaW.PrintWords Go.Proofs.YtfbjeiloefocgaaW.PrintLast Go.Proofs.YtfbjeiloefocgaaW.PrintMore
attribute [local go_sem] Oper.semAt_some

theorem All_at {p per f : Int} {l O : List Int} {m : Int} (h : allA p per f l = (O, m, 0)) (A0 : Option Addr) (c0 : Nat) (w : World) (hC : Kd.C (Kd.int .i64) w A0 l.length l) (hl : l.length < 1000) : Calls Try.prog 11 #[.int .u8 p, .int .i64 per, .int .i64 f, .slice A0 l.length c0] w fun e w' => (∃ v, e = .returned (.tuple #[v, .int .i64 m, .int .i64 0]) ∧ Kd.R (Kd.int .i64) 3 w' w.heap.size (fun _ => True) v O) ∧ Below w.heap.size w w' := by
  have := All_calls p per f A0 c0 l w hC hl
  rw [h] at this
  exact this
theorem fifo_all {per f : Int} {E : List Int} (h : okAll 1 per f) (hn : E.Nodup) (hb : ∀ b ∈ E, Bl b) (hl : E.length ≤ 12) : ∃ m, allA 1 per f E = (E, m, 0) := by
  have hi := all_inv (p := 1) h hn hb (by omega)
  have hf := fifo_run E.length _ _ _ hi rfl (List.length_map ..) (new_yng E hl)
  rw [new_blocks] at hf
  rw [all_is h hn hb (by omega), hf]
  exact ⟨_, rfl⟩
theorem near_all {per f : Int} {E : List Int} (h : okAll 2 per f) (hn : E.Nodup) (hb : ∀ b ∈ E, Bl b) (hl : E.length ≤ 12) : ∃ O m, allA 2 per f E = (O, m, 0) ∧ O.length = E.length ∧ ∀ y ∈ E, Bl (O.getD 0 0) ∧ wayI f (O.getD 0 0) per ≤ wayI f y per := by
  have hi := all_inv (p := 2) h hn hb (by omega)
  refine ⟨_, _, all_is h hn hb (by omega), run_len _ _ _, fun y hy => ?_⟩
  have hml : (E.map (fun b => (⟨b, 0⟩ : S77))).length = E.length := List.length_map ..
  have hpos : 0 < E.length := List.length_pos_of_mem hy
  obtain ⟨k, hk⟩ : ∃ k, E.length = k + 1 := ⟨E.length - 1, by omega⟩
  obtain ⟨O, hO⟩ := near_head hi rfl (by rw [hml, hk]) (new_yng E hl)
  rw [hk, hO]
  show Bl (bst _ _).f0 ∧ wayI f (bst _ _).f0 per ≤ _
  have hm := bst_mem (nearB (allS 2 per f)) (E.map (fun b => (⟨b, 0⟩ : S77))) (by omega)
  obtain ⟨b, hbE, e⟩ := List.mem_map.1 hm
  refine ⟨by rw [← e]; exact hb b hbE, ?_⟩
  exact bst_near (allS 2 per f) _ ⟨y, 0⟩ (List.mem_map.2 ⟨y, hy, rfl⟩)
/-- How often it falls, of the first steps. -/
def fcnt (O : List Int) : Nat → Nat
  | 0 => 0
  | i + 1 => fcnt O i + (if O.getD (i + 1) 0 < O.getD i 0 then 1 else 0)
theorem fcnt_le (O : List Int) : ∀ i, fcnt O i ≤ i
  | 0 => Nat.le_refl _
  | i + 1 => by
    unfold fcnt
    have := fcnt_le O i
    split <;> omega
theorem fcnt_cons (x y : Int) (t : List Int) : ∀ i, fcnt (x :: y :: t) (i + 1) = (if y < x then 1 else 0) + fcnt (y :: t) i
  | 0 => by simp [fcnt]
  | i + 1 => by
    rw [fcnt, fcnt_cons x y t i, fcnt, Nat.add_assoc]
    simp
theorem fcnt_all : ∀ (x : Int) (t : List Int), fcnt (x :: t) t.length = fallsN x t
  | _, [] => rfl
  | x, y :: t => by
    rw [List.length_cons, fcnt_cons, fcnt_all y t]
    rfl
theorem cyc_all {per f : Int} {E : List Int} (h : okAll 4 per f) (hn : E.Nodup) (hb : ∀ b ∈ E, Bl b) (hl : E.length ≤ 12) : ∃ O m, allA 4 per f E = (O, m, 0) ∧ O.length = E.length ∧ fcnt O (O.length - 1) ≤ 1 := by
  have hi := all_inv (p := 4) h hn hb (by omega)
  have hf := cyc_falls E.length _ _ _ hi rfl (List.length_map ..) (new_yng E hl)
  refine ⟨_, _, all_is h hn hb (by omega), run_len _ _ _, ?_⟩
  generalize (runN E.length (allS 4 per f) (E.map (fun b => (⟨b, 0⟩ : S77)))).1 = O at *
  cases O with
  | nil => exact Nat.zero_le _
  | cons x t =>
    rw [List.length_cons, Nat.add_sub_cancel, fcnt_all]
    unfold fallsN at hf
    omega
end Go.Proofs.Ytfbjeiloefocgaa.CC
