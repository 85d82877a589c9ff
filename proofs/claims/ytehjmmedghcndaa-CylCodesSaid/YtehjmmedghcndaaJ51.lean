import Derived.Test.YtehjmmedghcndaaGO
import Derived.Test.YtehjmmedghcndaaQC1
import Derived.Test.YtehjmmedghcndaaQCo
section
/-! The law CylCodes over what is printed. -/
namespace Go.Proofs.Ytehjmmedghcndaa.PG
open Go.RowKit Go.Proofs.YtehjmmedghcndaaW.PrintWords Go.Proofs.YtehjmmedghcndaaW.PrintLast Go.Proofs.YtehjmmedghcndaaW.PrintMore
def recC (c : S42) : S42 := ⟨c.f0, c.f1, wrap64 (c.f1 - (c.f5.length : Int)), wrap64 (16 - (c.f6.length : Int)), c.f4, c.f5, c.f6⟩
def rebS (c : S42) : S42 × Int := if rightB (recC c) = true then (recC c, 0) else (⟨0, 0, 0, 0, 0, [], []⟩, 3)
def tupS (p : S42 × Int) : Int × Int × Int × Int × Int × List Int × List Int × Int := (p.1.f0, p.1.f1, p.1.f2, p.1.f3, p.1.f4, p.1.f5, p.1.f6, p.2)
theorem reb_is (c : S42) (hs : SmallC c) (k : Nat) : cyl_Rebuild.f (k + 1003) c.f0 c.f1 c.f2 c.f3 c.f4 c.f5 c.f6 = some (tupS (rebS c)) := by
 have h := right_is (recC c) hs k
 have ho := own_is (recC c) hs
 unfold cyl_Rebuild.f cyl_recount.f
 rw [Option.bind_some]
 dsimp only
 rw [show cyl_Right.f (k + 1003) c.f0 c.f1 (wrap64 (c.f1 - (c.f5.length : Int))) (wrap64 (16 - (c.f6.length : Int))) c.f4 c.f5 c.f6 = some (rightB (recC c)) from h, Option.bind_some]
 unfold rebS
 cases hr : rightB (recC c) with
 | true =>
  rw [if_pos rfl, if_pos rfl, show cyl_own.f c.f0 c.f1 (wrap64 (c.f1 - (c.f5.length : Int))) (wrap64 (16 - (c.f6.length : Int))) c.f4 c.f5 c.f6 = _ from ho]
  rfl
 | false =>
  rw [if_neg (show ¬ ((false : Bool) = true) by decide), if_neg (show ¬ ((false : Bool) = true) by decide)]
  rfl
theorem rreb_is (c : S42) (hs : SmallC c) (k : Nat) : selvedgeref18_Rebuild.f (k + 1001) c.f0 c.f1 c.f2 c.f3 c.f4 c.f5 c.f6 = some (tupS (rebS c)) := by
 have h := rright_is (recC c) hs k
 have ho := rcopy_is c.f0 c.f1 (wrap64 (c.f1 - (c.f5.length : Int))) (wrap64 (16 - (c.f6.length : Int))) c.f4 c.f5 c.f6 (by have := hs.1; omega) (by have := hs.2; omega)
 unfold selvedgeref18_Rebuild.f
 rw [show selvedgeref18_Right.f (k + 1001) c.f0 c.f1 (wrap64 (c.f1 - (c.f5.length : Int))) (wrap64 (16 - (c.f6.length : Int))) c.f4 c.f5 c.f6 = some (rightB (recC c)) from h, Option.bind_some]
 unfold rebS
 cases hr : rightB (recC c) with
 | true =>
  rw [if_pos rfl, if_pos rfl, ho]
  rfl
 | false =>
  rw [if_neg (show ¬ ((false : Bool) = true) by decide), if_neg (show ¬ ((false : Bool) = true) by decide)]
  rfl
def newS (a b : Int) : S42 × Int := if rightB ⟨a, b, b, 16, 0, [], []⟩ = true then (⟨a, b, b, 16, 0, [], []⟩, 0) else (⟨0, 0, 0, 0, 0, [], []⟩, 2)
theorem new_is (a b : Int) (k : Nat) : cyl_New.f (k + 1003) a b = some (tupS (newS a b)) := by
 have h := right_is ⟨a, b, b, 16, 0, [], []⟩ ⟨Nat.zero_le 1000, Nat.zero_le 1000⟩ k
 unfold cyl_New.f
 rw [show cyl_Right.f (k + 1003) a b b 16 0 [] [] = some (rightB ⟨a, b, b, 16, 0, [], []⟩) from h, Option.bind_some]
 unfold newS
 cases hr : rightB ⟨a, b, b, 16, 0, [], []⟩ with
 | true => rw [if_pos rfl, if_pos rfl]; rfl
 | false => rw [if_neg (show ¬ ((false : Bool) = true) by decide), if_neg (show ¬ ((false : Bool) = true) by decide)]; rfl
theorem rnewA_is (a b : Int) (k : Nat) : selvedgeref18_New.f (k + 1001) a b = some (tupS (newS a b)) := by
 have h := rright_is ⟨a, b, b, 16, 0, [], []⟩ ⟨Nat.zero_le 1000, Nat.zero_le 1000⟩ k
 unfold selvedgeref18_New.f
 rw [show selvedgeref18_Right.f (k + 1001) a b b 16 0 [] [] = some (rightB ⟨a, b, b, 16, 0, [], []⟩) from h, Option.bind_some]
 unfold newS
 cases hr : rightB ⟨a, b, b, 16, 0, [], []⟩ with
 | true => rw [if_pos rfl, if_pos rfl]; rfl
 | false => rw [if_neg (show ¬ ((false : Bool) = true) by decide), if_neg (show ¬ ((false : Bool) = true) by decide)]; rfl
theorem same_self (x : S42) (hx : SmallC x) (k : Nat) : selvedgeref18_Same.f (k + 1001) x.f0 x.f1 x.f2 x.f3 x.f4 x.f5 x.f6 x.f0 x.f1 x.f2 x.f3 x.f4 x.f5 x.f6 = some true := by
 rw [rsameC_is x x hx k, sameB_self]
theorem zero_small : SmallC ⟨0, 0, 0, 0, 0, [], []⟩ := ⟨Nat.zero_le 1000, Nat.zero_le 1000⟩
theorem codes_j0 (c : S42) (hs : SmallC c) (l : List Int) (hB : Bt.Bytes l) (n0 n1 : Int) : selvedgelaw18_CylCodes.j0 3000 l c.f0 c.f1 c.f2 c.f3 c.f4 c.f5 c.f6 n0 n1 = some true := by
 have e1 : cyl_Encode.f c.f0 c.f1 c.f2 c.f3 c.f4 c.f5 c.f6 = some (encS c) := if_pos hs
 have e2 : cyl_Decode.f l = some (decT l) := if_pos hB
 have s1 : SmallC (decS l).1 := by
  by_cases h : (decS l).2 = 0
  ·exact (dec_ok h).2.2.2
  ·rw [dec_no h]; exact zero_small
 have s2 : SmallC (rebS c).1 := by unfold rebS; split; exact hs; exact zero_small
 have s3 : SmallC (newS n0 n1).1 := by unfold newS; split <;> exact zero_small
 rw [show (3000 : Nat) = 2999 + 1 from rfl, selvedgelaw18_CylCodes.j0, e1, Option.bind_some, show (2999 : Nat) = 1898 + 1101 from rfl, renc_is c hs 1898, Option.bind_some, e2, Option.bind_some,
  show (1898 + 1101 : Nat) = 1698 + 1301 from rfl, rdec_is hB 1698, Option.bind_some, show (1698 + 1301 : Nat) = 1996 + 1003 from rfl, reb_is c hs 1996, Option.bind_some, show (1996 + 1003 : Nat) = 1998 + 1001 from rfl, rreb_is c hs 1998, Option.bind_some,
  show (1998 + 1001 : Nat) = 1996 + 1003 from rfl, new_is n0 n1 1996, Option.bind_some, show (1996 + 1003 : Nat) = 1998 + 1001 from rfl, rnewA_is n0 n1 1998, Option.bind_some]
 show (some true).bind _ = _
 rw [Option.bind_some, if_pos rfl, if_pos rfl, if_pos rfl]
 have q1 := same_self _ s1 1998
 have q2 := same_self _ s2 1998
 have q3 := same_self _ s3 1998
 have q4 := right_is c hs 1996
 have q5 := rright_is c hs 1998
 unfold decT tupS
 dsimp only
 rw [q1, Option.bind_some, if_pos rfl, if_pos rfl, q2, Option.bind_some, if_pos rfl, if_pos rfl, q3, Option.bind_some, if_pos rfl, if_pos rfl, q5, show (1998 + 1001 : Nat) = 1996 + 1003 from rfl, q4, Option.bind_some, Option.bind_some, if_pos (beq_self_eq_true _)]
theorem cylCodes_is (c : S42) (l : List Int) (hB : Bt.Bytes l) (n0 n1 : Int) : selvedgelaw18_CylCodes.f 3000 c.f0 c.f1 c.f2 c.f3 c.f4 c.f5 c.f6 l n0 n1 = some true := by
 have hs : SmallC (oneS c) := ⟨by show (c.f5.take 70).length ≤ 1000; rw [List.length_take]; omega, by show (c.f6.take 20).length ≤ 1000; rw [List.length_take]; omega⟩
 unfold selvedgelaw18_CylCodes.f
 rw [one_is c, Option.bind_some]
 dsimp only
 by_cases h : (l.length : Int) > 40
 ·rw [if_pos h, if_pos (by omega)]
  exact codes_j0 (oneS c) hs _ (fun y hy => hB y (List.mem_of_mem_take hy)) n0 n1
 ·rw [if_neg h]
  exact codes_j0 (oneS c) hs l hB n0 n1
end Go.Proofs.Ytehjmmedghcndaa.PG
end
section
namespace Go.Proofs.Ytehjmmedghcndaa.Pure
open Go.RowKit
open Go.Proofs.Ytehjmmedghcndaa.PG Go.Proofs.YtehjmmedghcndaaW.PrintWords Go.Proofs.YtehjmmedghcndaaW.PrintLast Go.Proofs.YtehjmmedghcndaaW.PrintMore
/-- What is left of the law CylCodes: plain Lean. -/
def CylCodes_ : Prop := ∀ (x0 : S42) (l1 : List Int) (x2 : S51), ((Lit.int .i64 x0.f0).wf = true ∧ (Lit.int .i64 x0.f1).wf = true ∧ (Lit.int .i64 x0.f2).wf = true ∧ (Lit.int .i64 x0.f3).wf = true ∧ (Lit.int .i64 x0.f4).wf = true ∧ (x0.f5.length ≤ maxLen ∧ ∀ y5 ∈ x0.f5, (Lit.int .i64 y5).wf = true) ∧ (x0.f6.length ≤ maxLen ∧ ∀ y5 ∈ x0.f6, (Lit.int .i64 y5).wf = true)) → l1.length ≤ maxLen → (∀ y ∈ l1, (Lit.int .u8 y).wf = true) → ((Lit.int .i64 x2.f0).wf = true ∧ (Lit.int .i64 x2.f1).wf = true) → ∃ k, selvedgelaw18_CylCodes.f k x0.f0 x0.f1 x0.f2 x0.f3 x0.f4 x0.f5 x0.f6 l1 x2.f0 x2.f1 = some true
end Go.Proofs.Ytehjmmedghcndaa.Pure
end
section
namespace Go.Proofs.Ytehjmmedghcndaa.Pure
open Go.RowKit
open Go.Proofs.Ytehjmmedghcndaa.PG Go.Proofs.YtehjmmedghcndaaW.PrintWords Go.Proofs.YtehjmmedghcndaaW.PrintLast Go.Proofs.YtehjmmedghcndaaW.PrintMore
theorem u8w {n : Int} (h : (Lit.int .u8 n).wf = true) : 0 ≤ n ∧ n ≤ 255 := by
 have h' := (Bool.and_eq_true _ _).mp h
 exact ⟨of_decide_eq_true h'.1, of_decide_eq_true h'.2⟩
theorem CylCodes : CylCodes_ := fun x0 l1 x2 _ _ h1 _ => ⟨3000, cylCodes_is x0 l1 (fun y hy => by have := u8w (h1 y hy); exact ⟨this.1, by omega⟩) x2.f0 x2.f1⟩
end Go.Proofs.Ytehjmmedghcndaa.Pure
end
