import Derived.Test.YtlmoafkmhenejaakAVaTbO
import Derived.Test.YtlmoafkmhenejaakAMTab13
namespace Go.Proofs.Ytlmoafkmhenejaa.VLib
end Go.Proofs.Ytlmoafkmhenejaa.VLib
namespace Go.Proofs.Ytlmoafkmhenejaa.Bld
end Go.Proofs.Ytlmoafkmhenejaa.Bld
namespace Go.Proofs.YtlmoafkmhenejaaW.PrintWords
end Go.Proofs.YtlmoafkmhenejaaW.PrintWords
namespace Go.Proofs.YtlmoafkmhenejaaW.PrintLast
end Go.Proofs.YtlmoafkmhenejaaW.PrintLast
namespace Go.Proofs.YtlmoafkmhenejaaW.PrintMore
end Go.Proofs.YtlmoafkmhenejaaW.PrintMore
namespace Go.Proofs.Ytlmoafkmhenejaa.XW
end Go.Proofs.Ytlmoafkmhenejaa.XW
namespace Go.Proofs.Ytlmoafkmhenejaa.XA
open Go.Proofs.Ytlmoafkmhenejaa.VLib Go.Proofs.Ytlmoafkmhenejaa.Bld Go.RowKit Go.Proofs.YtlmoafkmhenejaaW.PrintWords Go.Proofs.YtlmoafkmhenejaaW.PrintLast Go.Proofs.YtlmoafkmhenejaaW.PrintMore Go.Proofs.Ytlmoafkmhenejaa.XW
set_option linter.unusedVariables false
set_option linter.unusedSimpArgs false
theorem fnd_may (m : List S43) (hm : OkB m) (key : ByteArray) (q : Int) (hb : bloom_Has.f 80000 (VaTb.bitsT m) key = some false) : VaFnd.fnd key q m = none := by
  refine VaTbO.fnd_none _ _ _ (fun y hy g => ?_)
  obtain ⟨i, hi, rfl⟩ := List.getElem_of_mem hy
  have e := VaTbO.has_self m hm i hi 80000 (Nat.le_refl _)
  rw [toList_inj.1 g.1, hb] at e
  cases e
theorem get_all (p : Value) (m : List S43) (key : ByteArray) (q : Int) (b : Bool) (k v : ByteArray) (g : Bool) (s : Int) (x : Bool) (w : World) (h : TabAt w p m (VaTb.bitsT m)) (hm : OkB m) (hl : 0 < m.length) (hb : bloom_Has.f 80000 (VaTb.bitsT m) key = some b) (hx : VaTbO.getO (VaFnd.fnd key q m) = (⟨k, v, g, s⟩, x)) :
    Calls Try.prog 22 #[p, .string key, .int .i64 q] w fun e w' => e = .returned (.tuple #[.agg #[.string k, .string v, .bool g, .int .i64 s], .bool x]) ∧ Below w.heap.size w w' := by
  have e : (if b = true then VaFnd.fnd key q m else none) = VaFnd.fnd key q m := by
    cases b with
    | true => rw [if_pos rfl]
    | false => rw [if_neg (by decide), fnd_may m hm key q hb]
  have := get_any p m key q w h hm hl b hb
  rw [e, hx] at this
  exact this
theorem find_all (A : Option Addr) (c : Nat) (m : List S43) (key : ByteArray) (q : Int) (k v : ByteArray) (g : Bool) (s : Int) (x : Bool) (w : World) (hC : Kd.C k43 w A m.length m) (hc : m.length ≤ c) (hm : OkB m) (hx : VaTbO.getO (VaFnd.fnd key q m) = (⟨k, v, g, s⟩, x)) :
    Calls Try.prog 24 #[.slice A m.length c, .string key, .int .i64 q] w fun e w' => e = .returned (.tuple #[.agg #[.string k, .string v, .bool g, .int .i64 s], .bool x]) ∧ Below w.heap.size w w' := by
  refine sorrelref09_Find.calls 5000 A c m key q k v g s x w hC hc ?_
  rw [VaFnd.rfind_is m key q 5000 (by omega), if_pos (show VaChk.okB m = true from hm)]
  congr 1
  revert hx
  cases VaFnd.fnd key q m with
  | none => intro hx; injection hx with h1 h2; injection h1 with h1 h3 h4 h5; subst h1 h2 h3 h4 h5; rfl
  | some e => intro hx; injection hx with h1 h2; subst h1 h2; rfl
theorem rkeys_calls (A : Option Addr) (c : Nat) (m : List S43) (w : World) (hC : Kd.C k43 w A m.length m) (hc : m.length ≤ c) (hm : OkB m) :
    Calls Try.prog 28 #[.slice A m.length c] w fun e w' => ∃ v, e = .returned v ∧ Kd.R Kd.string 9 w' w.heap.size (fun _ => True) v (keysL m) ∧ Below w.heap.size w w' :=
  sorrelref10_Keys.calls 5000 A c m _ w hC hc (VaRf.rkeys_is m 5000 hm.len (by omega))
theorem rmake_calls (A : Option Addr) (c : Nat) (m : List S43) (w : World) (hC : Kd.C Kd.string w A (keysL m).length (keysL m)) (hc : (keysL m).length ≤ c) (hm : OkB m) :
    Calls Try.prog 27 #[.slice A (keysL m).length c] w fun e w' => e = .returned (.tuple #[.string (VaTb.bitsT m), .int .i64 0]) ∧ Below w.heap.size w w' := by
  refine sorrelref08_Make.calls 80000 A c (keysL m) _ _ w hC hc ?_
  have h1 := VaTb.keys_len m
  have h2 := hm.len
  exact VaRf.rmake_bits (keysL m) 80000 64 (by omega) (by omega) (fun t ht => by
    obtain ⟨e, he, rfl⟩ := (VaTb.keys_mem m t).1 ht; exact (hm.may e he).2) (by omega)
theorem rhas_calls (m : List S43) (key : ByteArray) (b : Bool) (w : World) (hk : key.size ≤ 1000) (hb : bloom_Has.f 80000 (VaTb.bitsT m) key = some b) :
    Calls Try.prog 30 #[.string (VaTb.bitsT m), .string key] w fun e w' => e = .returned (.bool b) ∧ Below w.heap.size w w' := by
  have hz := VaTb.bitsT_size m
  have h1 := VaHas.has_is (VaTb.bitsT m) key 80000 1000 (by omega) hk (by omega) (by omega)
  have h2 := VaRf.rhas_is (VaTb.bitsT m) key 80000 1000 (by omega) hk (by omega) (by omega)
  refine (sorrelref08_Has.calls 80000 _ key b w (by rw [h2, ← h1]; exact hb)).mono ?_
  rintro e w' ⟨rfl, m1, e1⟩
  exact ⟨rfl, by rw [e1]; exact pw_below_drewN (Below.refl _ _) _⟩
theorem rrange_calls (A : Option Addr) (c : Nat) (m : List S43) (lo hi : ByteArray) (w : World) (hC : Kd.C k43 w A m.length m) (hc : m.length ≤ c) (hn : m.length ≤ 4096) :
    Calls Try.prog 31 #[.slice A m.length c, .agg #[.string lo, .string hi]] w fun e w' => ∃ v, e = .returned v ∧ Kd.R k43 43 w' w.heap.size (fun _ => True) v (VaSp.inR lo hi m) ∧ Below w.heap.size w w' := by
  refine sorrelref10_Range.calls 5000 A c m lo hi _ w hC hc ?_
  unfold sorrelref10_Range.f sorrelref04_Clip.f
  have := VaSp.rclip_l0 lo hi m (by omega) m.length 0 5000 [] (by omega) (by omega) (Nat.le_refl _)
  rw [show sorrelref04_Clip.l0 5000 m [] 0 lo hi = some ([] ++ VaSp.inR lo hi (m.drop 0)) from this]
  rfl
end Go.Proofs.Ytlmoafkmhenejaa.XA
