import Derived.Test.YtlmoafkmhenejaakNMTab0
namespace Go.Proofs.Ytlmoafkmhenejaa.VLib
end Go.Proofs.Ytlmoafkmhenejaa.VLib
namespace Go.Proofs.YtlmoafkmhenejaaW.PrintWords
end Go.Proofs.YtlmoafkmhenejaaW.PrintWords
namespace Go.Proofs.YtlmoafkmhenejaaW.PrintLast
end Go.Proofs.YtlmoafkmhenejaaW.PrintLast
namespace Go.Proofs.YtlmoafkmhenejaaW.PrintMore
end Go.Proofs.YtlmoafkmhenejaaW.PrintMore
namespace Go.Proofs.Ytlmoafkmhenejaa.XW
end Go.Proofs.Ytlmoafkmhenejaa.XW
namespace Go.Proofs.Ytlmoafkmhenejaa.XA
open Go.Proofs.Ytlmoafkmhenejaa.VLib Go.RowKit Go.Proofs.YtlmoafkmhenejaaW.PrintWords Go.Proofs.YtlmoafkmhenejaaW.PrintLast Go.Proofs.YtlmoafkmhenejaaW.PrintMore Go.Proofs.Ytlmoafkmhenejaa.XW
attribute [local go_sem high] max2_str unary_xor_u32 leq_str geq_str gtr_str
attribute [local go_sem] max2_int min2_int max_two min_two max_three min_three max_four min_four
set_option linter.unusedVariables false
set_option linter.unusedSimpArgs false
set_option maxHeartbeats 1600000 in
set_option maxRecDepth 100000 in
theorem compact_small (A : Option Addr) (n c : Nat) (W : World) (h : n < 2) : Calls Try.prog 75 #[.slice A n c] W fun e w' => e = .returned (.slice A n c) ∧ w' = W := by
  have a1 : decide ((n : Int) < 2) = true := decide_eq_true (by omega)
  have a2 : decide (n < 2) = true := decide_eq_true h
  clear h
  go_enter Try.func75, Try.ntmps75
  go_wp2
  go_ret
  exact ⟨rfl, rfl⟩
theorem compact_any (v : Value) (base : Nat) (ok : Nat → Prop) (xs : List ByteArray) (W : World) (hr : Kd.R Kd.string 9 W base ok v xs) (hb : base ≤ W.heap.size) (hn : xs.length < 2932031007402) :
    Calls Try.prog 75 #[v] W fun e w' => ∃ v', e = .returned v' ∧ Kd.R Kd.string 9 w' base ok v' (cmpL xs) ∧ Below base W w' := by
  by_cases h : xs.length < 2
  · obtain ⟨A, c, rfl, -, -⟩ := Kd.R_reads hr
    have e : cmpL xs = xs := by
      match xs, h with
      | [], _ => rfl
      | [x], _ => rfl
      | x :: y :: t, h => exact absurd h (by simp)
    rw [e]
    refine (compact_small A xs.length c W h).mono ?_
    rintro e' w' ⟨rfl, rfl⟩
    exact ⟨_, rfl, hr, Below.refl _ _⟩
  · obtain ⟨g, cap, rfl, -, -, -⟩ := Kd.R_form hr (by omega)
    refine (compact_calls g cap base ok xs W hr hb hn (by omega)).mono ?_
    rintro e' w' ⟨rfl, h1, h2⟩
    exact ⟨_, rfl, h1, h2⟩
def keysL (l : List S43) : List ByteArray := cmpL (l.map (·.f0))
set_option maxHeartbeats 1600000 in
set_option maxRecDepth 100000 in
theorem keys_calls (A0 : Option Addr) (c0 : Nat) (l0 : List S43) (w : World) (hr : Kd.C k43 w A0 l0.length l0) (hn : l0.length < 1000000) :
    Calls Try.prog 42 #[.slice A0 l0.length c0] w fun e w' => ∃ v, e = .returned v ∧ Kd.R Kd.string 9 w' w.heap.size (fun _ => True) v (keysL l0) ∧ Below w.heap.size w w' := by
  have HR := Aside0.mk hr
  have HN := Aside0.mk hn
  clear hr hn
  go_enter Try.func42, Try.ntmps42
  go_wp2
  go_loopg [3, 8] l0.length (fun kq v3 v8 w' => ∃ (i : Nat), v8 = .int .i64 (i : Int) ∧ Aside0 (i + kq = l0.length) ∧ Aside0 (Kd.R Kd.string 9 w' w.heap.size (fun _ => True) v3 ((l0.take i).map (·.f0))) ∧ Aside0 (Below w.heap.size w w'))
  case atStart => exact ⟨0, rfl, ⟨Nat.zero_add _⟩, ⟨Kd.R_nil _ _ _ _ _⟩, ⟨Below.refl _ _⟩⟩
  case round =>
    obtain ⟨i, rfl, HI, HO, HB⟩ := hrel
    have hi := HI.out
    have hn := HN.out
    cases gk with
    | zero =>
      have c1 : decide ((i : Int) < (l0.length : Int)) = false := decide_eq_false (by omega)
      have c2 : decide (i < l0.length) = false := decide_eq_false (by omega)
      have ho := HO.out
      rw [List.take_of_length_le (by omega)] at ho
      have HO1 := Aside0.mk ho
      clear hi ho hn
      go_wp2_with (go_at_call 75; go_loud ((refine (compact_any _ w.heap.size (fun _ => True) (l0.map (·.f0)) _ HO1.out HB.out.size (by rw [List.length_map]; have := HN.out; omega)).mono ?_); rintro e w3 ⟨v3, rfl, hR3, hb3⟩; obtain ⟨A3, c3, e3⟩ := Kd.R_slice hR3; subst e3; have HR3 := Aside0.mk hR3; have HB3 := Aside0.mk (HB.out.trans hb3); clear hR3 hb3))
      go_ret
      exact ⟨_, rfl, HR3.out, HB3.out⟩
    | succ k1 =>
      have hlt : i < l0.length := by omega
      have c1 : decide ((i : Int) < (l0.length : Int)) = true := decide_eq_true (by omega)
      have c2 : decide (i < l0.length) = true := decide_eq_true hlt
      have p1 : (0 ≤ (i : Int)) = True := eq_true (by omega)
      have p2 : ((i : Int) < (l0.length : Int)) = True := eq_true (by omega)
      have p3 : (i < l0.length) = True := eq_true hlt
      obtain ⟨ad, ea, x0, x1, x2, x3⟩ := at_T43 (Kd.C_below HR.out HB.out) (i : Int) (by omega) (by omega)
      have hrd : rd_T43 l0 (i : Int) = l0[i] := by unfold rd_T43; rw [Int.toNat_natCast, List.getD_eq_getElem?_getD, List.getElem?_eq_getElem hlt]; rfl
      rw [hrd, Int.toNat_natCast] at x0 x1 x2 x3
      cases ea
      have HT : Aside0 ((l0.take i).map (·.f0) ++ [l0[i].f0] = (l0.take (i + 1)).map (·.f0)) := ⟨by rw [List.take_succ_eq_append_getElem hlt, List.map_append]; rfl⟩
      obtain ⟨x, hx⟩ : ∃ x, l0[i] = x := ⟨_, rfl⟩
      rw [hx] at x0 x1 x2 x3 HT
      obtain ⟨K, V, G, Q⟩ := x
      dsimp only at x0 x1 x2 x3 HT
      have HW : Aside0 (wrap64 ((i : Int) + 1) = ((i + 1 : Nat) : Int)) := ⟨by unfold wrap64; omega⟩
      have HI2 : Aside0 (i + 1 + k1 = l0.length) := ⟨by omega⟩
      have HLn : Aside0 ((((l0.take i).map (·.f0)).length + 1) * 16 ≤ 140737488355328) := ⟨by rw [List.length_map, List.length_take]; omega⟩
      have y0 : (wr.alloc (.cells #[.string K, .string V, .bool G, .int .i64 Q] 43)).cell? ⟨wr.heap.size, 0, none⟩ = some (.string K) := (blk_cell (heap_alloc_new wr (.cells #[.string K, .string V, .bool G, .int .i64 Q] 43)) 0).trans rfl
      have HSZ : Aside0 ((wr.alloc (.cells #[.string K, .string V, .bool G, .int .i64 Q] 43)).heap.size = wr.heap.size + 1) := ⟨by simp⟩
      obtain ⟨xs, hxs⟩ : ∃ xs, (l0.take i).map (·.f0) = xs := ⟨_, rfl⟩
      rw [hxs] at HO HT HLn
      have HB2 := Aside0.mk (below_alloc HB.out (.cells #[.string K, .string V, .bool G, .int .i64 Q] 43))
      have HO2 := Aside0.mk (Kd.R_alloc HO.out (.cells #[.string K, .string V, .bool G, .int .i64 Q] 43))
      clear hi hn hlt hrd hx hxs
      go_wp2_with ((with_reducible refine gate_builtin (b := .append) (xs := #[.tmp 12, .tmp 15]) rfl ?_); at_builtin; go_loud (refine Kd.R_append Kd.string (w0 := w) w.heap.size rfl (.tmp 12) (.tmp 15) 56 9 (.string ⟨#[]⟩) 16 rfl Try.underlying56 info9 rfl (by decide) (by omega) u3 xs K [.string K] (fun _ => True) (fun _ => False) rfl (by rw [HSZ.out]; rfl) rfl (fun _ hk => hk.elim) (fun _ _ => trivial) HO2.out HB2.out HB2.out.size (by have := HLn.out; omega) ?_); intro v9 w9 ho hb hg hat; have HO9 := Aside0.mk ho; have HB9 := Aside0.mk hb; clear ho hb hg hat)
      go_roundg k1
      case measure => omega
      case rel => exact ⟨i + 1, by rw [HW.out], HI2, ⟨by have h := HO9.out; rw [HT.out] at h; exact h⟩, HB9⟩
end Go.Proofs.Ytlmoafkmhenejaa.XA
