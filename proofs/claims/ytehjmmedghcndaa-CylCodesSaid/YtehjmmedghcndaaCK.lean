import Derived.Test.YtehjmmedghcndaaCK2
import Derived.Test.YtehjmmedghcndaaDH
/-! cyl.Encode, cyl.Decode: their contracts. -/
namespace Go.Proofs.Ytehjmmedghcndaa.PG
open Go.RowKit Go.Proofs.YtehjmmedghcndaaW.PrintWords Go.Proofs.YtehjmmedghcndaaW.PrintLast Go.Proofs.YtehjmmedghcndaaW.PrintMore
/-- The bits of some numbers, in so many bytes. -/
def makeB (n : Nat) (l : List Int) : List Int := (Bt.mkL (List.replicate n 0) l).1
theorem make_ok {n : Nat} (hn : n ≤ 64) {l : List Int} {b : Int} (h : rise2 (-1) l b = true) (hb : b ≤ 8 * (n : Int)) (hl : l.length ≤ 1000) :
    (∃ K, ∀ k, K ≤ k → bitset_Make.f k (n : Int) l = some (makeB n l, 0)) ∧ (makeB n l).length = n ∧ Bt.Bytes (makeB n l) ∧ ∀ j, Bt.bitI (makeB n l) j = decide (j ∈ l) := by
  have ha := (rise2_all h).1
  obtain ⟨K, hK⟩ := Bt.make_is (n : Int) l hl (fun y hy => by have := ha y hy; omega)
  obtain ⟨y, h1, h2, h3, h4⟩ := Bt.mkL_ok l (List.replicate n 0) (fun y hy => by rw [(List.mem_replicate.1 hy).2]; omega) (fun i hi => by have := ha i hi; rw [List.length_replicate]; omega)
  have e : makeB n l = y := by unfold makeB; rw [h1]
  rw [e]
  refine ⟨⟨K, fun k hk => ?_⟩, by rw [h3, List.length_replicate], h2, fun j => ?_⟩
  · have := hK k hk
    rw [if_neg (by omega), Int.toNat_natCast, h1] at this
    exact this
  · rw [h4]
    have h0 : Bt.bitI (List.replicate n 0) j = false := by
      unfold Bt.bitI Bt.bit
      rw [List.getD_eq_getElem?_getD, List.getElem?_replicate]
      split <;> simp
    rw [h0, Bool.false_or]
/-- A group's bytes. -/
def encB (c : S42) : List Int := hdr c (makeB 8 c.f5) (makeB 2 c.f6)
def encS (c : S42) : List Int × Int := if rightB c = true then (encB c, 0) else ([], 3)
def cyl_Encode.f (a0_0 a0_1 a0_2 a0_3 a0_4 : Int) (l0_5 l0_6 : List Int) : Option (List Int × Int) := if SmallC ⟨a0_0, a0_1, a0_2, a0_3, a0_4, l0_5, l0_6⟩ then some (encS ⟨a0_0, a0_1, a0_2, a0_3, a0_4, l0_5, l0_6⟩) else none
theorem enc_facts {c : S42} (hs : SmallC c) (hr : rightB c = true) : ∃ K, cyl_Right.f K c.f0 c.f1 c.f2 c.f3 c.f4 c.f5 c.f6 = some true ∧ bitset_Make.f K 8 c.f5 = some (makeB 8 c.f5, 0) ∧ bitset_Make.f K 2 c.f6 = some (makeB 2 c.f6, 0) ∧ (makeB 8 c.f5).length = 8 ∧ (makeB 2 c.f6).length = 2 := by
  have hp := (right_iff c).1 hr
  obtain ⟨⟨K1, h1⟩, l1, _⟩ := make_ok (n := 8) (by decide) hp.u (by have := hp.b1; omega) hs.1
  obtain ⟨⟨K2, h2⟩, l2, _⟩ := make_ok (n := 2) (by decide) hp.n (by decide) hs.2
  have h3 := right_is c hs (K1 + K2)
  rw [hr] at h3
  exact ⟨K1 + K2 + 1003, h3, h1 _ (by omega), h2 _ (by omega), l1, l2⟩
theorem cyl_Encode.calls (a0_0 a0_1 a0_2 a0_3 a0_4 : Int) (A0_5 : Option Addr) (c0_5 : Nat) (l0_5 : List Int) (A0_6 : Option Addr) (c0_6 : Nat) (l0_6 : List Int) (r1 : List Int) (r2 : Int) (w : World) (hr0_5 : Kd.C (Kd.int .i64) w A0_5 l0_5.length l0_5) (hc0_5 : l0_5.length ≤ c0_5) (hr0_6 : Kd.C (Kd.int .i64) w A0_6 l0_6.length l0_6) (hc0_6 : l0_6.length ≤ c0_6) (h : cyl_Encode.f a0_0 a0_1 a0_2 a0_3 a0_4 l0_5 l0_6 = some (r1, r2)) :
    Calls Try.prog 30 #[.agg #[.int .i64 a0_0, .int .i64 a0_1, .int .i64 a0_2, .int .i64 a0_3, .int .i64 a0_4, .slice A0_5 l0_5.length c0_5, .slice A0_6 l0_6.length c0_6]] w fun e w' => ∃ v0_ : Value, e = .returned (.tuple #[v0_, .int .i64 r2]) ∧ Kd.R (Kd.int .u8) 84 w' w.heap.size (fun _ => True) v0_ r1 ∧ Below w.heap.size w w' := by
  unfold cyl_Encode.f at h
  by_cases hs : SmallC ⟨a0_0, a0_1, a0_2, a0_3, a0_4, l0_5, l0_6⟩
  · rw [if_pos hs] at h
    obtain h := Option.some.inj h
    unfold encS at h
    cases hr : rightB ⟨a0_0, a0_1, a0_2, a0_3, a0_4, l0_5, l0_6⟩ with
    | true =>
      rw [hr, if_pos rfl] at h
      obtain ⟨rfl, rfl⟩ : encB ⟨a0_0, a0_1, a0_2, a0_3, a0_4, l0_5, l0_6⟩ = r1 ∧ (0 : Int) = r2 := by simpa using h
      obtain ⟨K, h1, h2, h3, l1, l2⟩ := enc_facts hs hr
      refine (encode_ok ⟨a0_0, a0_1, a0_2, a0_3, a0_4, l0_5, l0_6⟩ A0_5 c0_5 A0_6 c0_6 _ _ _ _ K w hr0_5 hc0_5 hr0_6 hc0_6 h1 h2 h3 l1 l2).mono ?_
      rintro e w' ⟨g, rfl, hg, hH, hb⟩
      exact ⟨_, rfl, hH.R (by unfold hdr; rw [List.length_set]; exact h2_len _ l1 l2) hg, hb⟩
    | false =>
      rw [hr, if_neg (by decide)] at h
      obtain ⟨rfl, rfl⟩ : ([] : List Int) = r1 ∧ (3 : Int) = r2 := by simpa using h
      have h3 := right_is _ hs 0
      rw [hr] at h3
      refine (encode_bad ⟨a0_0, a0_1, a0_2, a0_3, a0_4, l0_5, l0_6⟩ A0_5 c0_5 A0_6 c0_6 _ w hr0_5 hc0_5 hr0_6 hc0_6 h3).mono ?_
      rintro e w' ⟨rfl, hb⟩
      exact ⟨_, rfl, Kd.R_nil _ _ _ _ _, hb⟩
  · rw [if_neg hs] at h
    cases h
theorem decC_small {l : List Int} : SmallC (decC l) := by
  have h1 := bitsOf_len ((l.take 14).drop 6)
  have h2 := bitsOf_len ((l.take 16).drop 14)
  rw [List.length_drop, List.length_take] at h1 h2
  exact ⟨show (bitsOf ((l.take 14).drop 6)).length ≤ 1000 by omega, show (bitsOf ((l.take 16).drop 14)).length ≤ 1000 by omega⟩
/-- The group that bytes say. -/
def decS (l : List Int) : S42 × Int := if l.length = 32 ∧ rightB (decC l) = true ∧ encB (decC l) = l then (decC l, 0) else (⟨0, 0, 0, 0, 0, [], []⟩, 3)
instance (l : List Int) : Decidable (Bt.Bytes l) := by unfold Bt.Bytes; infer_instance
def cyl_Decode.f (l0 : List Int) : Option (Int × Int × Int × Int × Int × List Int × List Int × Int) := if Bt.Bytes l0 then some ((decS l0).1.f0, (decS l0).1.f1, (decS l0).1.f2, (decS l0).1.f3, (decS l0).1.f4, (decS l0).1.f5, (decS l0).1.f6, (decS l0).2) else none
theorem cyl_Decode.calls (A0 : Option Addr) (c0 : Nat) (l0 : List Int) (r1 r2 r3 r4 r5 : Int) (r6 r7 : List Int) (r8 : Int) (w : World) (hr0 : Kd.C (Kd.int .u8) w A0 l0.length l0) (hc0 : l0.length ≤ c0) (h : cyl_Decode.f l0 = some (r1, r2, r3, r4, r5, r6, r7, r8)) :
    Calls Try.prog 32 #[.slice A0 l0.length c0] w fun e w' => ∃ v0_ v1_ : Value, e = .returned (.tuple #[.agg #[.int .i64 r1, .int .i64 r2, .int .i64 r3, .int .i64 r4, .int .i64 r5, v0_, v1_], .int .i64 r8]) ∧ Kd.R (Kd.int .i64) 3 w' w.heap.size (fun k_ => some k_ ≠ (v1_ : Value).ownBlock) v0_ r6 ∧ Kd.R (Kd.int .i64) 3 w' w.heap.size (fun k_ => some k_ ≠ (v0_ : Value).ownBlock) v1_ r7 ∧ Below w.heap.size w w' := by
  unfold cyl_Decode.f at h
  by_cases hB : Bt.Bytes l0
  · rw [if_pos hB] at h
    obtain h := Option.some.inj h
    by_cases hl : l0.length = 32
    · cases hr : rightB (decC l0) with
      | true =>
        obtain ⟨K, h1, h2, h3, l1, l2⟩ := enc_facts decC_small hr
        by_cases hx : encB (decC l0) = l0
        · have hd : decS l0 = (decC l0, 0) := if_pos ⟨hl, hr, hx⟩
          rw [hd] at h
          obtain ⟨rfl, rfl, rfl, rfl, rfl, rfl, rfl, rfl⟩ : (decC l0).f0 = r1 ∧ (decC l0).f1 = r2 ∧ (decC l0).f2 = r3 ∧ (decC l0).f3 = r4 ∧ (decC l0).f4 = r5 ∧ (decC l0).f5 = r6 ∧ (decC l0).f6 = r7 ∧ (0 : Int) = r8 := by simpa using h
          refine (decode_ok _ _ _ _ _ _ _ A0 c0 l0 w hr0 hc0 hl hB rfl rfl rfl rfl rfl rfl rfl K _ _ _ _ h1 h2 h3 l1 l2 hx).mono ?_
          rintro e w' ⟨v5, v6, rfl, hR5, hR6, hb⟩
          exact ⟨v5, v6, rfl, hR5, hR6, hb⟩
        · have hd : decS l0 = (⟨0, 0, 0, 0, 0, [], []⟩, 3) := if_neg (fun q => hx q.2.2)
          rw [hd] at h
          obtain ⟨rfl, rfl, rfl, rfl, rfl, rfl, rfl, rfl⟩ : (0 : Int) = r1 ∧ (0 : Int) = r2 ∧ (0 : Int) = r3 ∧ (0 : Int) = r4 ∧ (0 : Int) = r5 ∧ ([] : List Int) = r6 ∧ ([] : List Int) = r7 ∧ (3 : Int) = r8 := by simpa using h
          refine (decode_ne _ _ _ _ _ _ _ A0 c0 l0 w hr0 hc0 hl hB rfl rfl rfl rfl rfl rfl rfl K _ _ _ _ h1 h2 h3 l1 l2 hx).mono ?_
          rintro e w' ⟨rfl, hb⟩
          exact ⟨_, _, rfl, Kd.R_nil _ _ _ _ _, Kd.R_nil _ _ _ _ _, hb⟩
      | false =>
        have hd : decS l0 = (⟨0, 0, 0, 0, 0, [], []⟩, 3) := if_neg (fun q => by rw [hr] at q; cases q.2.1)
        rw [hd] at h
        obtain ⟨rfl, rfl, rfl, rfl, rfl, rfl, rfl, rfl⟩ : (0 : Int) = r1 ∧ (0 : Int) = r2 ∧ (0 : Int) = r3 ∧ (0 : Int) = r4 ∧ (0 : Int) = r5 ∧ ([] : List Int) = r6 ∧ ([] : List Int) = r7 ∧ (3 : Int) = r8 := by simpa using h
        have h3 := right_is _ (decC_small (l := l0)) 0
        rw [hr] at h3
        refine (decode_bad _ _ _ _ _ _ _ A0 c0 l0 w hr0 hc0 hl hB rfl rfl rfl rfl rfl rfl rfl _ h3).mono ?_
        rintro e w' ⟨rfl, hb⟩
        exact ⟨_, _, rfl, Kd.R_nil _ _ _ _ _, Kd.R_nil _ _ _ _ _, hb⟩
    · have hd : decS l0 = (⟨0, 0, 0, 0, 0, [], []⟩, 3) := if_neg (fun q => hl q.1)
      rw [hd] at h
      obtain ⟨rfl, rfl, rfl, rfl, rfl, rfl, rfl, rfl⟩ : (0 : Int) = r1 ∧ (0 : Int) = r2 ∧ (0 : Int) = r3 ∧ (0 : Int) = r4 ∧ (0 : Int) = r5 ∧ ([] : List Int) = r6 ∧ ([] : List Int) = r7 ∧ (3 : Int) = r8 := by simpa using h
      refine (decode_short A0 c0 l0 w hr0 hc0 hl).mono ?_
      rintro e w' ⟨rfl, hb⟩
      exact ⟨_, _, rfl, Kd.R_nil _ _ _ _ _, Kd.R_nil _ _ _ _ _, hb⟩
  · rw [if_neg hB] at h
    cases h
end Go.Proofs.Ytehjmmedghcndaa.PG
