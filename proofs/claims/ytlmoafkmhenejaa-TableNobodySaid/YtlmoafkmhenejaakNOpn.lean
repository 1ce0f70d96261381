import Derived.Test.YtlmoafkmhenejaakNWMore
import Derived.Test.YtlmoafkmhenejaakNWWords
import Derived.Deep.Slices
import Derived.OpenShut
import Derived.ChangeArms
namespace Go.Proofs.YtlmoafkmhenejaaW.PrintWords
end Go.Proofs.YtlmoafkmhenejaaW.PrintWords
namespace Go.Proofs.Ytlmoafkmhenejaa.Opn
open Go.RowKit Go.ChangeShapes Go.WideShapes Go.Deep Go.Proofs.YtlmoafkmhenejaaW.PrintWords
def Opens (P : Program) (t : TypeId) {α : Type} (d : Kd α) (ok : α → Prop) : Prop :=
  P.cellsOf t = d.sz ∧ ∀ (H : Type) (enc : TypeId × Value → H) (w : World) (base : Nat) (spare : Nat → Bool) (held : Bool) (fuel : Nat) (cs : List Value) (x : DataW H × List MemPlace),
    DataW.trod enc P w base spare held fuel t cs = some x → ∃ a, d.K w a cs ∧ ok a
variable {P : Program} {t : TypeId}
theorem opens_string (ht : P.underlying t = some .string) (hc : P.cellsOf t = 1) : Opens P t Kd.string (fun s => s.size ≤ maxLen) := by
  refine ⟨hc, fun H enc w base spare held fuel cs x h => ?_⟩
  obtain ⟨s, rfl, _, hs⟩ := DataW.trod_string ht h
  exact ⟨s, rfl, hs⟩
def OpensF (P : Program) (fs : Array Field) (_i off : Nat) {β : Type} (d : Kd β) (ok : β → Prop) : Prop :=
  ∀ (H : Type) (enc : TypeId × Value → H) (w : World) (base : Nat) (spare : Nat → Bool) (held : Bool) (n : Nat) (cs : List Value) (xs : List (DataW H × List MemPlace)),
    (∀ (j : Nat) (f : Field), fs[j]? = some f → DataW.trod enc P w base spare held n f.type ((cs.drop f.offset).take (P.cellsOf f.type)) = xs[j]?) → xs.length = fs.size → cs.length = off + d.sz →
    ∃ b, d.K w b (cs.drop off) ∧ ok b
theorem opensF_last {fs : Array Field} {i off : Nat} {f : Field} {β : Type} {d : Kd β} {ok : β → Prop} (hf : fs[i]? = some f) (ho : f.offset = off) (h : Opens P f.type d ok) : OpensF P fs i off d ok := by
  intro H enc w base spare held n cs xs hx hl hc
  have h1 := hx i f hf
  have hi : i < xs.length := by rw [hl]; exact (Array.getElem?_eq_some_iff.1 hf).1
  rw [List.getElem?_eq_getElem hi, ho, h.1, List.take_of_length_le (by rw [List.length_drop]; omega)] at h1
  exact h.2 H enc w base spare held n _ _ h1
theorem opensF_cons {fs : Array Field} {i off : Nat} {f : Field} {α β : Type} {a : Kd α} {b : Kd β} {oka : α → Prop} {okb : β → Prop} (hf : fs[i]? = some f) (ho : f.offset = off) (h : Opens P f.type a oka)
    (hr : OpensF P fs (i + 1) (off + a.sz) b okb) : OpensF P fs i off (Kd.pair a b) (fun x => oka x.1 ∧ okb x.2) := by
  intro H enc w base spare held n cs xs hx hl hc
  have hc' : cs.length = off + (a.sz + b.sz) := hc
  have h1 := hx i f hf
  have hi : i < xs.length := by rw [hl]; exact (Array.getElem?_eq_some_iff.1 hf).1
  rw [List.getElem?_eq_getElem hi, ho, h.1] at h1
  obtain ⟨u, hu, hoku⟩ := h.2 H enc w base spare held n _ _ h1
  obtain ⟨v, hv, hokv⟩ := hr H enc w base spare held n cs xs hx hl (by omega)
  refine ⟨(u, v), ⟨(cs.drop off).take a.sz, cs.drop (off + a.sz), ?_, hu, hv⟩, hoku, hokv⟩
  rw [← List.drop_drop]; exact (List.take_append_drop _ _).symm
theorem opens_struct {fs : Array Field} {α β : Type} {d : Kd β} {ok : β → Prop} {f : α → β} (ht : P.underlying t = some (.struct fs)) (hc : P.cellsOf t = d.sz) (h : OpensF P fs 0 0 d ok) (g : β → α) (hg : ∀ b, f (g b) = b) :
    Opens P t (Kd.iso d f) (fun a => ok (f a)) := by
  refine ⟨hc, fun H enc w base spare held fuel cs x hx => ?_⟩
  obtain ⟨xs, n, _, _, hlen, hl, hf⟩ := DataW.trod_struct ht hx
  obtain ⟨b, hb, hok⟩ := h H enc w base spare held n cs xs hf hl (by omega)
  refine ⟨g b, ?_, ?_⟩
  · show d.K w (f (g b)) cs
    rw [hg]; exact hb
  · show ok (f (g b))
    rw [hg]; exact hok
theorem top {H : Type} {enc : TypeId × Value → H} {w : World} {base : Nat} {spare : Nat → Bool} {held : Bool} {v : Value} {x : DataW H} {ps : List MemPlace} {α : Type} {d : Kd α} {ok : α → Prop} (hO : Opens P t d ok)
    (h : DataW.Trod enc P w base spare held t v x ps) : ∃ a, d.K w a v.cells.toList ∧ ok a := by
  obtain ⟨fuel, hf⟩ := h
  exact hO.2 H enc w base spare held fuel _ _ hf
theorem top_agg {H : Type} {enc : TypeId × Value → H} {w : World} {base : Nat} {spare : Nat → Bool} {held : Bool} {cs : Array Value} {x : DataW H} {ps : List MemPlace} {α : Type} {d : Kd α} {ok : α → Prop} (hO : Opens P t d ok)
    (h : DataW.Trod enc P w base spare held t (.agg cs) x ps) : ∃ a, d.K w a cs.toList ∧ ok a := by
  obtain ⟨a, hK, hok⟩ := top hO h
  exact ⟨a, by simpa [Value.cells] using hK, hok⟩
end Go.Proofs.Ytlmoafkmhenejaa.Opn
