import Derived.Test.YtehjmmedghcndaaCR
import Derived.Test.YtehjmmedghcndaaDB
/-! The law CylFresh: its contract. -/
namespace Go.Proofs.Ytehjmmedghcndaa.PG
open Go.RowKit Go.Proofs.YtehjmmedghcndaaW.PrintWords Go.Proofs.YtehjmmedghcndaaW.PrintLast Go.Proofs.YtehjmmedghcndaaW.PrintMore
def bytesB (l : List Int) : Bool := l.all fun x => decide (0 ≤ x) && decide (x ≤ 255)
theorem bytes_iff (l : List Int) : bytesB l = true ↔ Bytes8 l := by
 unfold bytesB Bytes8
 rw [List.all_eq_true]
 simp only [Bool.and_eq_true, decide_eq_true_eq]
def selvedgelaw18_CylFresh.f (_k : Nat) (l0 l1 : List Int) (a2 : Int) : Option Bool := if bytesB l0 = true ∧ bytesB l1 = true ∧ 0 ≤ a2 ∧ a2 ≤ 65535 then some true else none
theorem selvedgelaw18_CylFresh.calls (k : Nat) (A0 : Option Addr) (c0 : Nat) (l0 : List Int) (A1 : Option Addr) (c1 : Nat) (l1 : List Int) (a2 : Int) (r : Bool) (w : World) (hr0 : Kd.C (Kd.int .u8) w A0 l0.length l0) (hc0 : l0.length ≤ c0) (hr1 : Kd.C (Kd.int .u8) w A1 l1.length l1) (hc1 : l1.length ≤ c1) (h : selvedgelaw18_CylFresh.f k l0 l1 a2 = some r) :
  Calls Try.prog 5 #[.slice A0 l0.length c0, .slice A1 l1.length c1, .int .u16 a2] w fun e w' => e = .returned (.bool r) ∧ Below w.heap.size w w' := by
 unfold selvedgelaw18_CylFresh.f at h
 by_cases hb : bytesB l0 = true ∧ bytesB l1 = true ∧ 0 ≤ a2 ∧ a2 ≤ 65535
 ·rw [if_pos hb] at h
  obtain rfl := Option.some.inj h
  obtain ⟨L, hL, hw⟩ := made_is l0 l1 ((bytes_iff _).1 hb.1) ((bytes_iff _).1 hb.2.1) 0
  rcases hw with rfl | hw
  ·exact fresh_empty _ A0 c0 l0 A1 c1 l1 a2 w hr0 hc0 hr1 hc1 hL hb.2.2
  ·obtain ⟨an, rfl⟩ := Int.eq_ofNat_of_zero_le hb.2.2.1
   have h2 : an ≤ 65535 := by have := hb.2.2.2; omega
   have hpos := hw.n0
   have hgl : an % L.length < L.length := Nat.mod_lt _ hpos
   have hr := (hw.at_ _ hgl).2
   obtain ⟨mn, hmn⟩ := Int.eq_ofNat_of_zero_le (show 0 ≤ L[an % L.length].f1 by have := hr.b0; omega)
   have hmn1 : 1 ≤ mn := by have := hr.b0; omega
   have hbl : an / 16 % mn < mn := Nat.mod_lt _ hmn1
   have hm0 := may46 hw hgl (b := ((an / 16 % mn : Nat) : Int)) (by omega) (by rw [hmn]; omega)
   rcases takeS_cases L ((an % L.length : Nat) : Int) ((an / 16 % mn : Nat) : Int) with ⟨h1, _⟩ | ⟨_, _, h3⟩ | ⟨_, xn, hx, y, ht, h3, h4, h5⟩
   ·exact absurd hm0 h1
   ·rw [Int.toNat_natCast] at h3
    exact fresh_full _ A0 c0 l0 A1 c1 l1 an w hr0 hc0 hr1 hc1 L hw hL h2 _ mn _ _ hgl rfl hmn rfl rfl h3
   ·obtain ⟨yn, rfl⟩ := Int.eq_ofNat_of_zero_le h3
    obtain ⟨a1, a3⟩ := hw.at_ xn hx
    have hY : xn < ((L.set xn (takeC L[xn] (yn : Int))).set xn (giveC (takeC L[xn] (yn : Int)) (yn : Int))).length := by rw [List.length_set, List.length_set]; exact hx
    exact fresh_some _ A0 c0 l0 A1 c1 l1 an w hr0 hc0 hr1 hc1 L hw hL h2 _ mn _ _ hgl rfl hmn rfl rfl _ _ xn yn hx (List.length_set) (by rw [List.length_set, List.length_set]) hY (hw.set xn (a3.take h3 h4 h5) a1) ht (give_back hw hx h3 h4 h5) (give_not hw hx h3 h4 h5) (take_sum hx hw _).1
     (by rw [List.getElem_set_self]; exact back_is hw hx h5)
 ·rw [if_neg hb] at h; cases h
end Go.Proofs.Ytehjmmedghcndaa.PG
