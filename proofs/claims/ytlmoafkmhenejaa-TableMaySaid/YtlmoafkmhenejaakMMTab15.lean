import Derived.Test.YtlmoafkmhenejaakMXAx13
import Derived.Test.YtlmoafkmhenejaakMVaTbB
namespace Go.Proofs.Ytlmoafkmhenejaa.VLib
end Go.Proofs.Ytlmoafkmhenejaa.VLib
namespace Go.Proofs.Ytlmoafkmhenejaa.Bld
end Go.Proofs.Ytlmoafkmhenejaa.Bld
namespace Go.Proofs.YtlmoafkmhenejaaW.PrintWords
end Go.Proofs.YtlmoafkmhenejaaW.PrintWords
namespace Go.Proofs.YtlmoafkmhenejaaW.PrintLast
end Go.Proofs.YtlmoafkmhenejaaW.PrintLast
namespace Go.Proofs.YtlmoafkmhenejaaW.PrintMore
end Go.Proofs.YtlmoafkmhenejaaW.PrintMore
namespace Go.Proofs.Ytlmoafkmhenejaa.XW
end Go.Proofs.Ytlmoafkmhenejaa.XW
namespace Go.Proofs.Ytlmoafkmhenejaa.XA
open Go.Proofs.Ytlmoafkmhenejaa.VLib Go.Proofs.Ytlmoafkmhenejaa.Bld Go.RowKit Go.Proofs.YtlmoafkmhenejaaW.PrintWords Go.Proofs.YtlmoafkmhenejaaW.PrintLast Go.Proofs.YtlmoafkmhenejaaW.PrintMore Go.Proofs.Ytlmoafkmhenejaa.XW
set_option linter.unusedVariables false
set_option linter.unusedSimpArgs false
def OkB (m : List S43) : Prop := VaChk.okB m = true
theorem OkB.len {m : List S43} (h : OkB m) : m.length ≤ 4096 := ((VaPut.okB_iff m).1 h).1
theorem table_put (kk : Nat) (hk : 10000000 ≤ kk) (m : List S43) (h : OkB m) (hl : 0 < m.length) : ∃ s bits, buildF kk 300 m = some (s, 0) ∧ s.size ≤ 140737488355328 ∧ openF kk 300 s = some (some (m, bits)) ∧ bits = VaTb.bitsT m := by
  have hf := VaTb.footL_le m h
  have hs := VaTb.sfoot_len m
  have ht := VaTbB.tabL_len m
  exact ⟨bs (VaTb.tabL m), VaTb.bitsT m, VaTb.build_ok m kk hk (by omega) h, by rw [bs_size]; omega, VaTbB.open_put m kk hk (by omega) h, rfl⟩
def OpenOk (l m : List S43) : Prop := OkB m ∧ m.length ≤ l.length ∧ ((m = [] ∧ ∀ (A : Option Addr) (c : Nat) (w : World), Kd.C k43 w A l.length l → l.length ≤ c →
    Calls Try.prog 21 #[.slice A l.length c] w fun e w' => e = .returned (.tuple #[.pointer none, .slice none 0 0, .bool true]) ∧ Below w.heap.size w w') ∨
  (0 < m.length ∧ ∀ (A : Option Addr) (c : Nat) (w : World), Kd.C k43 w A l.length l → l.length ≤ c →
    Calls Try.prog 21 #[.slice A l.length c] w fun e w' => ∃ p A2 c2, e = .returned (.tuple #[.pointer (some p), .slice A2 m.length c2, .bool true]) ∧ TabAt w' (.pointer (some p)) m (VaTb.bitsT m) ∧ Kd.C k43 w' A2 m.length m ∧ m.length ≤ c2 ∧ Below w.heap.size w w'))
theorem open_any_ (kk : Nat) (hk : 10000000 ≤ kk) (l : List S43) (hl : l.length ≤ 80) : ∃ m, OpenOk l m := by
  obtain ⟨m, h1, h2, h3⟩ := VaMade.made_is l (by omega) kk (by omega)
  refine ⟨m, h2, h3, ?_⟩
  rcases Nat.eq_zero_or_pos m.length with h0 | h0
  · have e := List.length_eq_zero_iff.1 h0
    subst e
    exact .inl ⟨rfl, fun A c w hC hc => opened_none kk kk 300 A c l w hC hc h1 (VaTb.build_no [] kk hk (.inl rfl))⟩
  · obtain ⟨s, bits, g1, g2, g3, rfl⟩ := table_put kk hk m h2 h0
    exact .inr ⟨h0, fun A c w hC hc => opened_some kk kk 300 A c l m s _ w hC hc h1 h0 g1 g2 g3⟩
theorem open_any (l : List S43) (hl : l.length ≤ 80) : ∃ m, OpenOk l m := open_any_ 10000000 (Nat.le_refl _) l hl
theorem light_any (l : List S43) : ∃ b, (b = true → l.length ≤ 80) ∧ sorrellaw10_light.f 82 l = some b := by
  obtain ⟨b, h1, h2⟩ := VaMade.light_is l 82 (Nat.le_refl _)
  exact ⟨b, h2, h1⟩
theorem get_any (p : Value) (m : List S43) (key : ByteArray) (q : Int) (w : World) (h : TabAt w p m (VaTb.bitsT m)) (hm : OkB m) (hl : 0 < m.length) (b : Bool) (hb : bloom_Has.f 80000 (VaTb.bitsT m) key = some b) :
    Calls Try.prog 22 #[p, .string key, .int .i64 q] w fun e w' => e = .returned (.tuple #[.agg #[.string (VaTbO.getO (if b = true then VaFnd.fnd key q m else none)).1.f0, .string (VaTbO.getO (if b = true then VaFnd.fnd key q m else none)).1.f1, .bool (VaTbO.getO (if b = true then VaFnd.fnd key q m else none)).1.f2, .int .i64 (VaTbO.getO (if b = true then VaFnd.fnd key q m else none)).1.f3], .bool (VaTbO.getO (if b = true then VaFnd.fnd key q m else none)).2]) ∧ Below w.heap.size w w' := by
  cases b with
  | false =>
    refine (get_no 80000 p m (VaTb.bitsT m) key q w h (.inr ⟨hl, hb⟩)).mono ?_
    rintro e w' ⟨rfl, hb⟩
    exact ⟨rfl, hb⟩
  | true =>
    obtain ⟨r, hr⟩ := VaTbO.cut_any m hm key
    have hn := hm.len
    refine (get_yes 80000 (m.length + 1) p m (VaTb.bitsT m) key q r w h hl hn hb (seek_is m key r _ hr (Nat.lt_succ_self _)) hr.1).mono ?_
    rintro e w' ⟨rfl, hb⟩
    rw [if_pos rfl, VaTbO.get_is m hm key q r hr]
    exact ⟨rfl, hb⟩
theorem OkB.may {m : List S43} (h : OkB m) : ∀ e ∈ m, 1 ≤ e.f0.size ∧ e.f0.size ≤ 64 := fun e he => by
  have := VaPut.ok_may m none ((VaPut.okB_iff m).1 h).2 e he
  exact ⟨this.k1, this.k64⟩
theorem OkB.all {m : List S43} (h : OkB m) : VaSp.inR ⟨#[]⟩ ⟨#[]⟩ m = m := by
  unfold VaSp.inR
  rw [List.filter_eq_self]
  intro a ha
  obtain ⟨h1, h2⟩ := h.may a ha
  have e0 : VaSp.emp ⟨#[]⟩ = true := by rw [VaSp.emp_size]; rfl
  refine VaSp.hasB_iff.2 ⟨VaSp.mayB_iff.2 ⟨Nat.zero_le _, Nat.zero_le _, VaSp.aheadB_iff.2 (.inl e0)⟩, VaSp.keyB_iff.2 ⟨?_, h2⟩, ?_, VaSp.aheadB_iff.2 (.inl e0)⟩
  · rw [VaSp.emp_size, decide_eq_false (by omega)]
  · exact VaSp.lt_emp e0
end Go.Proofs.Ytlmoafkmhenejaa.XA
