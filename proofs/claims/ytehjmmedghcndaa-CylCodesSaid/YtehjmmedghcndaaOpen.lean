import Derived.Test.YtehjmmedghcndaaWMore
import Derived.Deep.Slices
import Derived.OpenShut
import Derived.ChangeSame
/-! What comes in as data reads as the print's kinds say. -/
namespace Go.Proofs.Ytehjmmedghcndaa.Op
open Go.RowKit Go.Deep Go.ChangeShapes Go.WideShapes Go.Proofs.YtehjmmedghcndaaW.PrintWords Go.Proofs.YtehjmmedghcndaaW.PrintMore
def Rd {α : Type} (P : Program) (d : Kd α) (t : TypeId) (g : α → Prop) : Prop :=
 ∀ (H : Type) (enc : TypeId × Value → H) (w : World) (base : Nat) (spare : Nat → Bool) (held : Bool) (fuel : Nat) (cs : List Value) (x : DataW H × List MemPlace),
  DataW.trod enc P w base spare held fuel t cs = some x → ∃ a, d.K w a cs ∧ g a
def RdSeq {α : Type} (P : Program) (d : Kd α) (ts : List TypeId) (g : α → Prop) : Prop :=
 ∀ (H : Type) (enc : TypeId × Value → H) (w : World) (base : Nat) (spare : Nat → Bool) (held : Bool) (n : Nat) (cs : List Value),
  cs.length = (ts.map P.cellsOf).sum → (∀ pre t post, ts = pre ++ t :: post → ∃ y, DataW.trod enc P w base spare held n t ((cs.drop (pre.map P.cellsOf).sum).take (P.cellsOf t)) = some y) → ∃ a, d.K w a cs ∧ g a
section
variable {P : Program} {t e : TypeId}
theorem Rd.int {k : IntKind} (ht : P.underlying t = some (.int k)) : Rd P (Kd.int k) t (fun n => (Lit.int k n).wf = true) := by
 intro H enc w base spare held fuel cs x h
 obtain ⟨n, hc, _, hw⟩ := DataW.trod_int ht h
 exact ⟨n, hc, hw⟩
theorem Rd.bool (ht : P.underlying t = some .bool) : Rd P Kd.bool t (fun _ => True) := by
 intro H enc w base spare held fuel cs x h
 obtain ⟨n, hc, _⟩ := DataW.trod_bool ht h
 exact ⟨n, hc, trivial⟩
theorem Rd.string (ht : P.underlying t = some .string) : Rd P Kd.string t (fun s => s.size ≤ maxLen) := by
 intro H enc w base spare held fuel cs x h
 obtain ⟨n, hc, _, hs⟩ := DataW.trod_string ht h
 exact ⟨n, hc, hs⟩
theorem Rd.mono {α : Type} {d : Kd α} {g g' : α → Prop} (h : Rd P d t g) (hg : ∀ a, g a → g' a) : Rd P d t g' := by
 intro H enc w base spare held fuel cs x hx
 obtain ⟨a, hk, ha⟩ := h H enc w base spare held fuel cs x hx
 exact ⟨a, hk, hg a ha⟩
theorem Rd.slice {α : Type} {d : Kd α} {g : α → Prop} (ht : P.underlying t = some (.slice e)) (hC : P.cellsOf e = d.sz) (h : Rd P d e g) : Rd P (Kd.slice e d) t (fun l => l.length ≤ maxLen ∧ ∀ a ∈ l, g a) := by
 intro H enc w base spare held fuel cs x hx
 rcases open_slice ht hx with ⟨rfl, _⟩ | ⟨ad, len, cap, m, n, D, Pl, rfl, hb, hl, hm, hmm, _, hi⟩
 ·exact ⟨[], ⟨none, 0, rfl, Nat.le_refl _, rfl, by simp, fun h0 => absurd h0 (by simp)⟩, by simp, by simp⟩
 ·have hlm : len ≤ m := by rw [hmm]; split <;> omega
  have hex : ∀ i : Nat, ∃ a : Option α, i < len → ∃ b cs', a = some b ∧ w.cells? base (ad.add (i * P.cellsOf e)) (P.cellsOf e) = some cs' ∧ d.K w b cs' ∧ g b := by
   intro i
   by_cases hil : i < len
   ·obtain ⟨cs', hc, htr⟩ := hi i (by omega)
    obtain ⟨b, hk, hg⟩ := h H enc w base spare held n cs' _ htr
    exact ⟨some b, fun _ => ⟨b, cs', rfl, hc, hk, hg⟩⟩
   ·exact ⟨none, fun h => absurd h hil⟩
  obtain ⟨f, hf⟩ := Classical.axiomOfChoice hex
  let l : List α := (List.range len).filterMap f
  have key : ∀ k, k ≤ len → ((List.range k).filterMap f).length = k ∧ (∀ j b, ((List.range k).filterMap f)[j]? = some b → f j = some b) := by
   intro k
   induction k with
   | zero => intro _; simp
   | succ k ih =>
    intro hk
    obtain ⟨h1, h2⟩ := ih (by omega)
    obtain ⟨b, cs', hb', _⟩ := hf k (by omega)
    rw [List.range_succ, List.filterMap_append]
    simp only [List.filterMap_cons, hb', List.filterMap_nil, List.length_append, h1, List.length_singleton, true_and]
    intro j c hj
    rcases Nat.lt_or_ge j k with hjk | hjk
    ·rw [List.getElem?_append_left (by omega)] at hj; exact h2 j c hj
    ·rw [List.getElem?_append_right (by omega), h1] at hj
     obtain rfl : j = k := by
      have := (List.getElem?_eq_some_iff.1 hj).1
      simp at this; omega
     simp at hj; rw [hb', hj]
  obtain ⟨hll, hat⟩ := key len (Nat.le_refl _)
  refine ⟨l, ⟨some ad, cap, ?_, ?_, ?_⟩, ?_, ?_⟩
  ·show _ = [Value.slice (some ad) l.length cap]; rw [show l.length = len from hll]
  ·show l.length ≤ cap; rw [show l.length = len from hll]; exact hl
  ·refine ⟨rfl, ?_, fun _ => ⟨ad, rfl, fun j p hj => ?_⟩⟩
   ·show l.length ≤ _; rw [show l.length = len from hll]; unfold maxLen at hm; omega
   ·have hjl : j < len := by
     have := (List.getElem?_eq_some_iff.1 hj).1
     rw [show l.length = len from hll] at this; exact this
    obtain ⟨b, cs', hb', hc, hk, _⟩ := hf j hjl
    have := hat j p hj
    rw [hb'] at this
    obtain rfl := Option.some.inj this
    obtain ⟨_, hcl, hcat⟩ := World.cells?_some hc
    refine ⟨cs', by rw [hcl, hC], hk, fun i u hu => ?_⟩
    have hil : i < P.cellsOf e := by have := (List.getElem?_eq_some_iff.1 hu).1; omega
    rw [← hC, ← Go.Deep.add_add, hcat i hil]; exact hu
  ·show l.length ≤ maxLen; rw [show l.length = len from hll]; omega
  ·intro a ha
   obtain ⟨j, hj⟩ := List.mem_iff_getElem?.1 ha
   have hjl : j < len := by
    have := (List.getElem?_eq_some_iff.1 hj).1
    rw [show l.length = len from hll] at this; exact this
   obtain ⟨b, cs', hb', _, _, hg⟩ := hf j hjl
   have := hat j a hj
   rw [hb'] at this
   obtain rfl := Option.some.inj this
   exact hg
theorem RdSeq.one {α : Type} {d : Kd α} {g : α → Prop} (h : Rd P d t g) : RdSeq P d [t] g := by
 intro H enc w base spare held n cs hl hf
 obtain ⟨y, hy⟩ := hf [] t [] rfl
 simp only [List.map_nil, List.sum_nil, List.drop_zero] at hy
 rw [List.take_of_length_le (by simp at hl; omega)] at hy
 exact h H enc w base spare held n cs y hy
theorem RdSeq.cons {α β : Type} {d1 : Kd α} {d2 : Kd β} {g1 : α → Prop} {g2 : β → Prop} {ts : List TypeId} (h1 : Rd P d1 t g1) (h2 : RdSeq P d2 ts g2) : RdSeq P (Kd.pair d1 d2) (t :: ts) (fun x => g1 x.1 ∧ g2 x.2) := by
 intro H enc w base spare held n cs hl hf
 obtain ⟨y, hy⟩ := hf [] t ts rfl
 simp only [List.map_nil, List.sum_nil, List.drop_zero] at hy
 obtain ⟨a, ka, ga⟩ := h1 H enc w base spare held n _ y hy
 obtain ⟨b, kb, gb⟩ := h2 H enc w base spare held n (cs.drop (P.cellsOf t)) (by simp at hl ⊢; omega) (fun pre u post hp => by
  obtain ⟨y, hy⟩ := hf (t :: pre) u post (by rw [hp]; rfl)
  refine ⟨y, ?_⟩
  rw [List.drop_drop]
  simpa [Nat.add_comm] using hy)
 exact ⟨(a, b), ⟨_, _, (List.take_append_drop _ _).symm, ka, kb⟩, ga, gb⟩
def offs (P : Program) : Nat → List TypeId → List Nat
 | _, [] => []
 | k, t :: ts => k :: offs P (k + P.cellsOf t) ts
theorem offs_at (P : Program) : ∀ (ts pre : List TypeId) (k : Nat) (t : TypeId) (post : List TypeId), ts = pre ++ t :: post → (offs P k ts)[pre.length]? = some (k + (pre.map P.cellsOf).sum)
 | [], pre, _, _, _, h => by cases pre <;> simp at h
 | u :: us, [], k, t, post, h => by simp [offs]
 | u :: us, p :: pre, k, t, post, h => by
  simp only [List.cons_append, List.cons.injEq] at h
  obtain ⟨rfl, hus⟩ := h
  have := offs_at P us pre (k + P.cellsOf u) t post hus
  simp only [offs, List.length_cons, List.getElem?_cons_succ, List.map_cons, List.sum_cons]
  rw [this, Nat.add_assoc]
theorem Rd.struct {α : Type} {d : Kd α} {g : α → Prop} {fs : Array Field} {ts : List TypeId} (ht : P.underlying t = some (.struct fs)) (h1 : fs.toList.map (·.type) = ts) (h2 : fs.toList.map (·.offset) = offs P 0 ts) (h3 : P.cellsOf t = (ts.map P.cellsOf).sum) (h : RdSeq P d ts g) : Rd P d t g := by
 intro H enc w base spare held fuel cs x hx
 obtain ⟨xs, n, _, _, hl, hxl, hf⟩ := DataW.trod_struct ht hx
 refine h H enc w base spare held n cs (by rw [hl, h3]) (fun pre u post hp => ?_)
 have hlen : fs.size = ts.length := by rw [← h1]; simp
 have hi : pre.length < fs.size := by rw [hlen, hp]; simp
 have hty : (fs[pre.length]).type = u := by
  have : (fs.toList.map (·.type))[pre.length]? = some u := by rw [h1, hp]; simp
  simpa [hi] using this
 have hof : (fs[pre.length]).offset = (pre.map P.cellsOf).sum := by
  have : (fs.toList.map (·.offset))[pre.length]? = some (0 + (pre.map P.cellsOf).sum) := by rw [h2]; exact offs_at P ts pre 0 u post hp
  simpa [hi] using this
 have := hf pre.length fs[pre.length] (by simp [hi])
 rw [hty, hof] at this
 exact ⟨xs[pre.length]'(by omega), by rw [this]; exact List.getElem?_eq_getElem _⟩
theorem Rd.array {α : Type} {d : Kd α} {g : α → Prop} {n : Nat} {ts : List TypeId} (ht : P.underlying t = some (.array n e)) (h1 : ts = List.replicate n e) (h3 : P.cellsOf t = n * P.cellsOf e) (h : RdSeq P d ts g) : Rd P d t g := by
 intro H enc w base spare held fuel cs x hx
 obtain ⟨xs, m, _, _, hl, hxl, hf⟩ := DataW.trod_array ht hx
 refine h H enc w base spare held m cs (by rw [hl, h3, h1]; simp) (fun pre u post hp => ?_)
 have hm : ∀ v ∈ ts, v = e := fun v hv => by rw [h1] at hv; exact (List.mem_replicate.1 hv).2
 have hu : u = e := hm u (by rw [hp]; simp)
 have hpre : pre = List.replicate pre.length e := List.eq_replicate_iff.2 ⟨rfl, fun v hv => hm v (by rw [hp]; simp [hv])⟩
 have hi : pre.length < n := by
  have : ts.length = n := by rw [h1]; simp
  rw [hp] at this; simp at this; omega
 have hsum : (pre.map P.cellsOf).sum = pre.length * P.cellsOf e := by
  rw [hpre]; simp
 have := hf pre.length hi
 rw [hsum, hu]
 exact ⟨xs[pre.length]'(by omega), by rw [this]; exact List.getElem?_eq_getElem _⟩
theorem Rd.iso {α β : Type} {d : Kd α} {g : α → Prop} (f : β → α) (f' : α → β) (hf : ∀ a, f (f' a) = a) (h : Rd P d t g) : Rd P (Kd.iso d f) t (fun b => g (f b)) := by
 intro H enc w base spare held fuel cs x hx
 obtain ⟨a, hk, hg⟩ := h H enc w base spare held fuel cs x hx
 exact ⟨f' a, by show d.K w (f (f' a)) cs; rw [hf]; exact hk, by show g (f (f' a)); rw [hf]; exact hg⟩
/-- An argument. -/
theorem Rd.open_ {α : Type} {d : Kd α} {g : α → Prop} (h : Rd P d t g) {H : Type} {enc : TypeId × Value → H} {w : World} {base : Nat} {spare : Nat → Bool} {held : Bool} {v : Value} {dt : DataW H} {ps : List MemPlace} (ht : DataW.Trod enc P w base spare held t v dt ps) : ∃ a, d.K w a v.cells.toList ∧ g a := by
 obtain ⟨fuel, hf⟩ := ht
 exact h H enc w base spare held fuel _ _ hf
theorem okWide_array {n : Nat} {r : Reach} {base : Nat} {v : Value} {w : World} (ht : P.underlying t = some (.array n e)) (h : Value.okWide P w r base t v) : ∃ cs, v = .agg cs := by
 simp only [Value.okWide, ht] at h
 cases v <;> simp_all
/-- An argument that is a slice. -/
theorem Rd.slice_arg {α : Type} {d : Kd α} {g : α → Prop} (ht : P.underlying t = some (.slice e)) (hC : P.cellsOf e = d.sz) (hd : Rd P d e g) {H : Type} {enc : TypeId × Value → H} {w : World} {b0 base : Nat} {r : Reach} {spare : Nat → Bool} {held : Bool} {v : Value} {dt : DataW H} {ps : List MemPlace} (hok : Value.okWide P w r b0 t v) (h : DataW.Trod enc P w base spare held t v dt ps) :
  ∃ (l : List α) (A : Option Addr) (c : Nat), v = .slice A l.length c ∧ l.length ≤ c ∧ d.C w A l.length l ∧ l.length ≤ maxLen ∧ ∀ a ∈ l, g a := by
 obtain ⟨a, len, cap, rfl⟩ := okWide_slice ht hok
 obtain ⟨l, ⟨A, c, hc, hl, hC'⟩, hm, hg⟩ := (Rd.slice ht hC hd).open_ h
 simp [Value.cells] at hc
 obtain ⟨rfl, rfl, rfl⟩ := hc
 exact ⟨l, _, _, rfl, hl, hC', hm, hg⟩
/-- An argument that is a struct. -/
theorem Rd.struct_arg {α : Type} {d : Kd α} {g : α → Prop} {fs : Array Field} (ht : P.underlying t = some (.struct fs)) (hd : Rd P d t g) {H : Type} {enc : TypeId × Value → H} {w : World} {b0 base : Nat} {r : Reach} {spare : Nat → Bool} {held : Bool} {v : Value} {dt : DataW H} {ps : List MemPlace} (hok : Value.okWide P w r b0 t v) (h : DataW.Trod enc P w base spare held t v dt ps) :
  ∃ (a : α) (cs : List Value), v = .agg cs.toArray ∧ d.K w a cs ∧ g a := by
 obtain ⟨cs, rfl, _⟩ := okWide_struct ht hok
 obtain ⟨a, hk, hg⟩ := hd.open_ h
 exact ⟨a, cs.toList, rfl, hk, hg⟩
theorem Rd.array_arg {α : Type} {d : Kd α} {g : α → Prop} {n : Nat} (ht : P.underlying t = some (.array n e)) (hd : Rd P d t g) {H : Type} {enc : TypeId × Value → H} {w : World} {b0 base : Nat} {r : Reach} {spare : Nat → Bool} {held : Bool} {v : Value} {dt : DataW H} {ps : List MemPlace} (hok : Value.okWide P w r b0 t v) (h : DataW.Trod enc P w base spare held t v dt ps) :
  ∃ (a : α) (cs : List Value), v = .agg cs.toArray ∧ d.K w a cs ∧ g a := by
 obtain ⟨cs, rfl⟩ := okWide_array ht hok
 obtain ⟨a, hk, hg⟩ := hd.open_ h
 exact ⟨a, cs.toList, rfl, hk, hg⟩
end
end Go.Proofs.Ytehjmmedghcndaa.Op
