import Derived.Test.YtgepdbkhcdoedaaWMore
import Derived.Deep.Slices
import Derived.ChangeSame
import Derived.OpenShut
namespace Go.Proofs.YtgepdbkhcdoedaaW.Opens
open Go.ChangeShapes Go.WideShapes Go.Deep Go.RowKit Go.Proofs.YtgepdbkhcdoedaaW.PrintWords

/-- Whatever is read at type t is told by the kind d. -/
def Opens {α : Type} (P : Program) (t : TypeId) (d : Kd α) (G : α → Prop) : Prop :=
  ∀ (H : Type) (enc : TypeId × Value → H) (w : World) (base : Nat) (spare : Nat → Bool) (held : Bool) (fuel : Nat) (cs : List Value) (x : DataW H × List MemPlace),
    DataW.trod enc P w base spare held fuel t cs = some x → ∃ a, d.K w a cs ∧ G a

variable {P : Program} {α β : Type}
theorem Opens.int {t : TypeId} {k : IntKind} (ht : P.underlying t = some (.int k)) : Opens P t (Kd.int k) (fun x => (Lit.int k x).wf = true) := by
  intro H enc w base spare held fuel cs x h
  obtain ⟨n, rfl, _, hw⟩ := DataW.trod_int ht h
  exact ⟨n, rfl, hw⟩
theorem Opens.bool {t : TypeId} (ht : P.underlying t = some .bool) : Opens P t Kd.bool (fun _ => True) := by
  intro H enc w base spare held fuel cs x h
  obtain ⟨b, rfl, _⟩ := DataW.trod_bool ht h
  exact ⟨b, rfl, trivial⟩
theorem Opens.string {t : TypeId} (ht : P.underlying t = some .string) : Opens P t Kd.string (fun s => s.size ≤ maxLen) := by
  intro H enc w base spare held fuel cs x h
  obtain ⟨s, rfl, _, hs⟩ := DataW.trod_string ht h
  exact ⟨s, rfl, hs⟩
theorem cells_list {w : World} {base : Nat} {a : Addr} {n : Nat} {cs : List Value} (h : w.cells? base a n = some cs) : cs.length = n ∧ ∀ i u, cs[i]? = some u → w.cell? (a.add i) = some u := by
  obtain ⟨_, hl, hat⟩ := World.cells?_some h
  exact ⟨hl, fun i u hu => (hat i (by rw [← hl]; exact (List.getElem?_eq_some_iff.1 hu).1)).trans hu⟩
theorem list_of {R : Nat → α → Prop} : ∀ n : Nat, (∀ i, i < n → ∃ z, R i z) → ∃ l : List α, l.length = n ∧ ∀ i z, l[i]? = some z → R i z
  | 0, _ => ⟨[], rfl, fun i z h => by simp at h⟩
  | n + 1, h => by
    obtain ⟨l, hl, hr⟩ := list_of n (fun i hi => h i (by omega))
    obtain ⟨z, hz⟩ := h n (by omega)
    refine ⟨l ++ [z], by simp [hl], fun i y hy => ?_⟩
    rcases Nat.lt_or_ge i l.length with hi | hi
    · rw [List.getElem?_append_left hi] at hy
      exact hr i y hy
    · rw [List.getElem?_append_right hi] at hy
      have h1 : i = n := by have := (List.getElem?_eq_some_iff.1 hy).1; simp at this; omega
      subst h1
      rw [hl, Nat.sub_self] at hy
      obtain rfl : z = y := by simpa using hy
      exact hz
theorem Opens.slice {t e e' : TypeId} {d : Kd α} {G : α → Prop} (he : Opens P e d G) (ht : P.underlying t = some (.slice e)) (hC : P.cellsOf e = d.sz) :
    Opens P t (Kd.slice e' d) (fun l => l.length ≤ maxLen ∧ ∀ x ∈ l, G x) := by
  intro H enc w base spare held fuel cs x h
  rcases open_slice ht h with ⟨rfl, _⟩ | ⟨a, len, cap, m, n, D, Pl, rfl, _, hl, hm, hmm, _, hi⟩
  · exact ⟨[], ⟨none, 0, rfl, Nat.le_refl _, by refine ⟨rfl, by simp, fun h0 => absurd h0 (by simp)⟩⟩, by simp, by simp⟩
  · have hlm : len ≤ m := by rw [hmm]; split <;> omega
    obtain ⟨l, hll, hlr⟩ := list_of (R := fun i z => (∃ c, c.length = d.sz ∧ d.K w z c ∧ ∀ j u, c[j]? = some u → w.cell? (a.add (i * d.sz + j)) = some u) ∧ G z) len (by
      intro i hil
      obtain ⟨cs', hc, htr⟩ := hi i (by omega)
      rw [hC] at hc
      obtain ⟨hcl, hca⟩ := cells_list hc
      obtain ⟨z, hz, hg⟩ := he H enc w base spare held n cs' _ htr
      exact ⟨z, ⟨cs', hcl, hz, fun j u hu => by rw [← Go.Deep.add_add]; exact hca j u hu⟩, hg⟩)
    subst hll
    refine ⟨l, ⟨some a, cap, rfl, hl, rfl, ?_, fun _ => ⟨a, rfl, fun j p hj => (hlr j p hj).1⟩⟩, Nat.le_trans hl hm, fun x hx => ?_⟩
    · unfold maxLen at hm; omega
    · obtain ⟨i, hi, rfl⟩ := List.getElem_of_mem hx
      exact (hlr i _ (List.getElem?_eq_getElem hi)).2
/-- The same of a struct's fields from an offset on. -/
def OpensF {α : Type} (P : Program) (fs : List Field) (off : Nat) (d : Kd α) (G : α → Prop) : Prop :=
  ∀ (H : Type) (enc : TypeId × Value → H) (w : World) (base : Nat) (spare : Nat → Bool) (held : Bool) (n : Nat) (cs : List Value),
    (∀ f ∈ fs, ∃ y, DataW.trod enc P w base spare held n f.type ((cs.drop f.offset).take (P.cellsOf f.type)) = some y) → cs.length = off + d.sz → ∃ a, d.K w a (cs.drop off) ∧ G a
theorem OpensF.one {f : Field} {off : Nat} {d : Kd α} {G : α → Prop} (h : Opens P f.type d G) (ho : f.offset = off) (hs : P.cellsOf f.type = d.sz) : OpensF P [f] off d G := by
  intro H enc w base spare held n cs hf hl
  obtain ⟨y, hy⟩ := hf f (by simp)
  rw [ho, hs] at hy
  rw [List.take_of_length_le (by rw [List.length_drop]; omega)] at hy
  exact h H enc w base spare held n _ _ hy
theorem OpensF.cons {f : Field} {fs : List Field} {off : Nat} {d : Kd α} {d' : Kd β} {G : α → Prop} {G' : β → Prop} (h : Opens P f.type d G) (ho : f.offset = off) (hs : P.cellsOf f.type = d.sz) (h' : OpensF P fs (off + d.sz) d' G') :
    OpensF P (f :: fs) off (Kd.pair d d') (fun x => G x.1 ∧ G' x.2) := by
  intro H enc w base spare held n cs hf hl
  have hl' : cs.length = off + d.sz + d'.sz := by rw [hl]; exact (Nat.add_assoc _ _ _).symm
  obtain ⟨y, hy⟩ := hf f (by simp)
  rw [ho, hs] at hy
  obtain ⟨a, ha, hg⟩ := h H enc w base spare held n _ _ hy
  obtain ⟨b, hb, hg'⟩ := h' H enc w base spare held n cs (fun f' hf' => hf f' (by simp [hf'])) hl'
  refine ⟨(a, b), ⟨_, _, ?_, ha, hb⟩, hg, hg'⟩
  rw [← List.drop_drop, List.take_append_drop]
theorem Opens.struct {t : TypeId} {fs : List Field} {d : Kd α} {G : α → Prop} (h : OpensF P fs 0 d G) (ht : P.underlying t = some (.struct fs.toArray)) (hC : P.cellsOf t = d.sz) : Opens P t d G := by
  intro H enc w base spare held fuel cs x hx
  obtain ⟨xs, n, _, _, hl, hlen, hf⟩ := DataW.trod_struct ht hx
  obtain ⟨a, ha, hg⟩ := h H enc w base spare held n cs (fun f hm => by
    obtain ⟨i, hi, rfl⟩ := List.getElem_of_mem hm
    have hlt : i < xs.length := by rw [hlen]; simpa using hi
    exact ⟨xs[i], (hf i _ (by simp [List.getElem?_eq_getElem hi])).trans (List.getElem?_eq_getElem hlt)⟩) (by rw [hl, hC, Nat.zero_add])
  exact ⟨a, by simpa using ha, hg⟩
theorem Opens.iso {t : TypeId} {d : Kd α} {G : α → Prop} (h : Opens P t d G) (f : β → α) (g : α → β) (hfg : ∀ a, f (g a) = a) : Opens P t (Kd.iso d f) (fun b => G (f b)) := by
  intro H enc w base spare held fuel cs x hx
  obtain ⟨a, ha, hg⟩ := h H enc w base spare held fuel cs x hx
  exact ⟨g a, show d.K w (f (g a)) cs by rw [hfg]; exact ha, show G (f (g a)) by rw [hfg]; exact hg⟩
theorem Opens.mono {t : TypeId} {d : Kd α} {G G' : α → Prop} (h : Opens P t d G) (hG : ∀ a, G a → G' a) : Opens P t d G' := by
  intro H enc w base spare held fuel cs x hx
  obtain ⟨a, ha, hg⟩ := h H enc w base spare held fuel cs x hx
  exact ⟨a, ha, hG a hg⟩
end Go.Proofs.YtgepdbkhcdoedaaW.Opens
