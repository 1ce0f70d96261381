import Derived.Test.YtlmoafkmhenejaakMMTab15
namespace Go.Proofs.Ytlmoafkmhenejaa.VLib
end Go.Proofs.Ytlmoafkmhenejaa.VLib
namespace Go.Proofs.Ytlmoafkmhenejaa.Bld
end Go.Proofs.Ytlmoafkmhenejaa.Bld
namespace Go.Proofs.YtlmoafkmhenejaaW.PrintWords
end Go.Proofs.YtlmoafkmhenejaaW.PrintWords
namespace Go.Proofs.YtlmoafkmhenejaaW.PrintLast
end Go.Proofs.YtlmoafkmhenejaaW.PrintLast
namespace Go.Proofs.YtlmoafkmhenejaaW.PrintMore
end Go.Proofs.YtlmoafkmhenejaaW.PrintMore
namespace Go.Proofs.Ytlmoafkmhenejaa.XW
end Go.Proofs.Ytlmoafkmhenejaa.XW
namespace Go.Proofs.Ytlmoafkmhenejaa.XA
open Go.Proofs.Ytlmoafkmhenejaa.VLib Go.Proofs.Ytlmoafkmhenejaa.Bld Go.RowKit Go.Proofs.YtlmoafkmhenejaaW.PrintWords Go.Proofs.YtlmoafkmhenejaaW.PrintLast Go.Proofs.YtlmoafkmhenejaaW.PrintMore Go.Proofs.Ytlmoafkmhenejaa.XW
attribute [local go_sem high] max2_str unary_xor_u32 leq_str geq_str gtr_str
attribute [local go_sem] max2_int min2_int max_two min_two max_three min_three max_four min_four
set_option linter.unusedVariables false
set_option linter.unusedSimpArgs false
theorem boxv_ {P : Program} {ops : Array Oper} {Q : Exit → Act → World → Prop} {oi : Oper} {N : Option Tmp} {a : Act} {w : World} {K : Act → World → Prop} {cs : Array Value} {t : TypeId} (hw : Region.wanted oi (yielded ops a.tmps) = true) (hN : oi.dst = N)
    (hrun : (execOp a.eval oi).run P w = .ok (.value (.pointer (some ⟨w.heap.size, 0, none⟩))) (w.alloc (.cells cs t (0, 0))))
    (h : ∀ g w1, w1.heap[g]? = some (.cells cs t (0, 0)) → Below w.heap.size w w1 → w.heap.size ≤ g → K (a.put N (.pointer (some ⟨g, 0, none⟩))) w1) : if Region.wanted oi (yielded ops a.tmps) = true then Oper.wp P oi a w K Q else K (a.put N undef) w :=
  value_ hw hN hrun (h _ _ (blk_new w _) (below_alloc (Below.refl _ _) _) (Nat.le_refl _))
theorem get_self (p : Value) (m : List S43) (i : Nat) (k v : ByteArray) (g : Bool) (s : Int) (w : World) (h : TabAt w p m (VaTb.bitsT m)) (hm : OkB m) (hi : i < m.length) (hx : rd_T43 m (i : Int) = ⟨k, v, g, s⟩) :
    Calls Try.prog 22 #[p, .string k, .int .i64 s] w fun e w' => e = .returned (.tuple #[.agg #[.string k, .string v, .bool g, .int .i64 s], .bool true]) ∧ Below w.heap.size w w' := by
  have e1 : m[i] = ⟨k, v, g, s⟩ := by rw [← hx]; exact (VaChk.rdT m i hi).symm
  have e2 := VaTbO.has_self m hm i hi 80000 (Nat.le_refl _)
  have e3 := VaTbO.fnd_self m hm i hi
  rw [e1] at e2 e3
  have := get_any p m k s w h hm (by omega) true e2
  rw [if_pos rfl, e3] at this
  exact this
theorem may_self (p : Value) (m : List S43) (i : Nat) (k v : ByteArray) (g : Bool) (s : Int) (w : World) (h : TabAt w p m (VaTb.bitsT m)) (hm : OkB m) (hi : i < m.length) (hx : rd_T43 m (i : Int) = ⟨k, v, g, s⟩) :
    Calls Try.prog 23 #[p, .string k] w fun e w' => e = .returned (.bool true) ∧ Below w.heap.size w w' := by
  have e1 : m[i] = ⟨k, v, g, s⟩ := by rw [← hx]; exact (VaChk.rdT m i hi).symm
  have e2 := VaTbO.has_self m hm i hi 80000 (Nat.le_refl _)
  rw [e1] at e2
  exact may_some 80000 p m _ k true w h (by omega) e2
theorem get_false (p : Value) (m : List S43) (key : ByteArray) (q : Int) (w : World) (h : TabAt w p m (VaTb.bitsT m)) (hl : 0 < m.length) (hb : bloom_Has.f 80000 (VaTb.bitsT m) key = some false) :
    Calls Try.prog 22 #[p, .string key, .int .i64 q] w fun e w' => e = .returned (.tuple #[.agg #[.string ⟨#[]⟩, .string ⟨#[]⟩, .bool false, .int .i64 0], .bool false]) ∧ Below w.heap.size w w' := get_no 80000 p m _ key q w h (.inr ⟨hl, hb⟩)
theorem get_some (p : Value) (m : List S43) (key : ByteArray) (q : Int) (w : World) (h : TabAt w p m (VaTb.bitsT m)) (hm : OkB m) (hl : 0 < m.length) (b : Bool) (hb : bloom_Has.f 80000 (VaTb.bitsT m) key = some b) :
    Calls Try.prog 22 #[p, .string key, .int .i64 q] w fun e w' => ∃ k v g s x, e = .returned (.tuple #[.agg #[.string k, .string v, .bool g, .int .i64 s], .bool x]) ∧ Below w.heap.size w w' := by
  refine (get_any p m key q w h hm hl b hb).mono ?_
  rintro e w' ⟨rfl, h⟩
  exact ⟨_, _, _, _, _, rfl, h⟩
set_option maxHeartbeats 4000000 in
set_option maxRecDepth 100000 in
theorem may_law (A : Option Addr) (c : Nat) (l : List S43) (key : ByteArray) (w : World) (hC : Kd.C k43 w A l.length l) (hc : l.length ≤ c) :
    Calls Try.prog 5 #[.slice A l.length c, .string key] w fun e w' => e = .returned (.bool true) ∧ Below w.heap.size w w' := by
  have HC := Aside0.mk hC
  have HCC := Aside0.mk hc
  obtain ⟨b, hb80, hli⟩ := light_any l
  have HLI := Aside0.mk hli
  clear hC hc hli
  cases b with
  | false =>
    clear hb80
    go_enter Try.func5, Try.ntmps5
    go_wp2_with (first
      | (go_at_call 12; go_loud ((refine (awake_calls _).mono ?_); rintro e w99 ⟨rfl, hb99⟩; have HB99 := Aside0.mk (below_step HB1.out hb99); clear hb99))
      | (go_at_call 11; go_loud ((with_reducible refine (sorrellaw10_light.calls 82 A c l false _ HC.out HCC.out HLI.out).mono ?_); rintro e w1 ⟨rfl, m1, e1⟩; have HB1 : Aside0 (Below w.heap.size w w1) := ⟨by rw [e1]; exact pw_below_drewN (Below.refl _ _) _⟩; clear e1)))
    go_ret
    exact ⟨rfl, HB99.out⟩
  | true =>
    by_cases q0 : 100 < key.size
    · have ca : decide ((100 : Int) < (key.size : Int)) = true := decide_eq_true (by omega)
      have cb : decide (100 < key.size) = true := decide_eq_true (by omega)
      clear q0 hb80
      go_enter Try.func5, Try.ntmps5
      go_wp2_with (first
        | (go_at_call 12; go_loud ((refine (awake_calls _).mono ?_); rintro e w99 ⟨rfl, hb99⟩; have HB99 := Aside0.mk (below_step HB1.out hb99); clear hb99))
        | (go_at_call 11; go_loud ((with_reducible refine (sorrellaw10_light.calls 82 A c l true _ HC.out HCC.out HLI.out).mono ?_); rintro e w1 ⟨rfl, m1, e1⟩; have HB1 : Aside0 (Below w.heap.size w w1) := ⟨by rw [e1]; exact pw_below_drewN (Below.refl _ _) _⟩; clear e1)))
      go_ret
      exact ⟨rfl, HB99.out⟩
    have ca : decide ((100 : Int) < (key.size : Int)) = false := decide_eq_false (by omega)
    have cb : decide (100 < key.size) = false := decide_eq_false (by omega)
    obtain ⟨m, hOK, hml, hop⟩ := open_any l (hb80 rfl)
    have h80 := hb80 rfl
    clear hb80
    rcases hop with ⟨hm0, hop⟩ | ⟨hm0, hop⟩
    · clear q0 hml hm0 h80 hOK
      go_enter Try.func5, Try.ntmps5
      go_wp2_with (first
        | (go_at_call 12; go_loud ((refine (awake_calls _).mono ?_); rintro e w99 ⟨rfl, hb99⟩; have HB99 := Aside0.mk (below_step HB2.out hb99); clear hb99))
        | (go_at_call 21; go_loud ((with_reducible refine (hop A c _ (Kd.C_below HC.out HB1.out) HCC.out).mono ?_); rintro e w2 ⟨rfl, hb2⟩; have HB2 := Aside0.mk (below_step HB1.out hb2); clear hb2))
        | (go_at_call 11; go_loud ((with_reducible refine (sorrellaw10_light.calls 82 A c l true _ HC.out HCC.out HLI.out).mono ?_); rintro e w1 ⟨rfl, m1, e1⟩; have HB1 : Aside0 (Below w.heap.size w w1) := ⟨by rw [e1]; exact pw_below_drewN (Below.refl _ _) _⟩; clear e1)))
      go_ret
      exact ⟨rfl, HB99.out⟩
    · have HL0 : Aside0 (0 < m.length ∧ m.length ≤ 80) := ⟨by omega⟩
      have HOK := Aside0.mk hOK
      obtain ⟨b, hbb⟩ := VaTbO.has_any m key (by omega) 80000 (Nat.le_refl _)
      have HHAS := Aside0.mk hbb
      clear q0 hml h80 hm0 hOK hbb
      go_enter Try.func5, Try.ntmps5
      go_wp2_with (first
        | (go_at_call 21; go_loud ((with_reducible refine (hop A c _ (Kd.C_below HC.out HB1.out) HCC.out).mono ?_); rintro e w2 ⟨p, A2, c2, rfl, hT2, hC2, hc2, hb2⟩; have HT2 := Aside0.mk hT2; have HM2 := Aside0.mk hC2; have HMC := Aside0.mk hc2; have HB2 := Aside0.mk (below_step HB1.out hb2); clear hT2 hC2 hc2 hb2))
        | (go_at_call 11; go_loud ((with_reducible refine (sorrellaw10_light.calls 82 A c l true _ HC.out HCC.out HLI.out).mono ?_); rintro e w1 ⟨rfl, m1, e1⟩; have HB1 : Aside0 (Below w.heap.size w w1) := ⟨by rw [e1]; exact pw_below_drewN (Below.refl _ _) _⟩; clear e1)))
      go_loopg [8] m.length (fun kq v8 w' => ∃ (i : Nat), v8 = .int .i64 (i : Int) ∧ Aside0 (i + kq = m.length) ∧ Aside0 (Below w2.heap.size w2 w'))
      case atStart => exact ⟨0, rfl, ⟨Nat.zero_add _⟩, ⟨Below.refl _ _⟩⟩
      case round =>
        obtain ⟨i, rfl, HI, HB⟩ := hrel
        have hi := HI.out
        cases gk with
        | zero =>
          have d1 : decide ((i : Int) < (m.length : Int)) = false := decide_eq_false (by omega)
          have d2 : decide (i < m.length) = false := decide_eq_false (by omega)
          have HBW := Aside0.mk (below_step HB2.out HB.out)
          have HTW := Aside0.mk (HT2.out.below HB.out)
          clear hi
          cases b with
          | false =>
            go_wp2_with (first
              | (go_at_call 12; go_loud ((refine (awake_calls _).mono ?_); rintro e w99 ⟨rfl, hb99⟩; have HB99 := Aside0.mk (below_step HB4.out hb99); clear hb99))
              | (go_at_call 23; go_loud ((with_reducible refine (may_some 80000 _ m _ key false _ HT3.out HL0.out.1 HHAS.out).mono ?_); rintro e w4 ⟨rfl, hb4⟩; have HB4 := Aside0.mk (below_step HB3.out hb4); clear hb4))
              | (go_at_call 22; go_loud ((with_reducible refine (get_false _ m key 1099511627776 _ HTW.out HL0.out.1 HHAS.out).mono ?_); rintro e w3 ⟨rfl, hb3⟩; have hb3' := below_alloc hb3 (.cells #[.string ⟨#[]⟩, .string ⟨#[]⟩, .bool false, .int .i64 0] 43); have HB3 := Aside0.mk (below_step HBW.out hb3'); have HT3 := Aside0.mk (HTW.out.below hb3'); have HS3 := Aside0.mk hb3.size; clear hb3 hb3')))
            go_ret
            exact ⟨rfl, HB99.out⟩
          | true =>
            go_wp2_with (first
              | (go_at_call 12; go_loud ((refine (awake_calls _).mono ?_); rintro e w99 ⟨rfl, hb99⟩; have HB99 := Aside0.mk (below_step HB4.out hb99); clear hb99))
              | (go_at_call 23; go_loud ((with_reducible refine (may_some 80000 _ m _ key true _ HT3.out HL0.out.1 HHAS.out).mono ?_); rintro e w4 ⟨rfl, hb4⟩; have HB4 := Aside0.mk (below_step HB3.out hb4); clear hb4))
              | (go_at_call 22; go_loud ((with_reducible refine (get_some _ m key 1099511627776 _ HTW.out HOK.out HL0.out.1 true HHAS.out).mono ?_); rintro e w3 ⟨k, v, g, s, x, rfl, hb3⟩; have hb3' := below_alloc hb3 (.cells #[.string k, .string v, .bool g, .int .i64 s] 43); have HB3 := Aside0.mk (below_step HBW.out hb3'); have HT3 := Aside0.mk (HTW.out.below hb3'); have HS3 := Aside0.mk hb3.size; clear hb3 hb3')))
            go_ret
            exact ⟨rfl, HB99.out⟩
        | succ k1 =>
          have hlt : i < m.length := by omega
          have d1 : decide ((i : Int) < (m.length : Int)) = true := decide_eq_true (by omega)
          have d2 : decide (i < m.length) = true := decide_eq_true (by omega)
          have p1 : (0 ≤ (i : Int)) = True := eq_true (by omega)
          have p2 : ((i : Int) < (m.length : Int)) = True := eq_true (by omega)
          have p3 : (i < m.length) = True := eq_true hlt
          obtain ⟨ad, ea, y0, y1, y2, y3⟩ := at_T43 (Kd.C_below HM2.out HB.out) (i : Int) (by omega) (by omega)
          obtain ⟨x, hx⟩ : ∃ x, rd_T43 m (i : Int) = x := ⟨_, rfl⟩
          rw [hx, Int.toNat_natCast] at y0
          rw [hx, Int.toNat_natCast] at y1 y2 y3
          obtain ⟨k, v, g, s⟩ := x
          dsimp only at y0 y1 y2 y3
          subst ea
          have HX := Aside0.mk hx
          have HLT := Aside0.mk hlt
          have HW : Aside0 (wrap64 ((i : Int) + 1) = ((i + 1 : Nat) : Int)) := ⟨by have := HL0.out; unfold wrap64; omega⟩
          have HI2 : Aside0 (i + 1 + k1 = m.length) := ⟨by omega⟩
          have HBr := Aside0.mk HB.out
          have Y0 := Aside0.mk y0
          have Y1 := Aside0.mk y1
          have Y2 := Aside0.mk y2
          have Y3 := Aside0.mk y3
          clear hi hlt hx
          go_wp2
          have f0 : wr.drew.cell? (ad.add (i * 4)) = some (.string k) := Y0.out
          have f1 : wr.drew.cell? ⟨(ad.add (i * 4)).block, (ad.add (i * 4)).off + 1, none⟩ = some (.string v) := Y1.out
          have f2 : wr.drew.cell? ⟨(ad.add (i * 4)).block, (ad.add (i * 4)).off + 2, none⟩ = some (.bool g) := Y2.out
          have f3 : wr.drew.cell? ⟨(ad.add (i * 4)).block, (ad.add (i * 4)).off + 3, none⟩ = some (.int .i64 s) := Y3.out
          have f4 := below_drew HBr.out
          refine start_ (n := 18) (S := fun w' => w'.cell? (ad.add (i * 4)) = some (.string k) ∧ w'.cell? ⟨(ad.add (i * 4)).block, (ad.add (i * 4)).off + 1, none⟩ = some (.string v) ∧ w'.cell? ⟨(ad.add (i * 4)).block, (ad.add (i * 4)).off + 2, none⟩ = some (.bool g) ∧ w'.cell? ⟨(ad.add (i * 4)).block, (ad.add (i * 4)).off + 3, none⟩ = some (.int .i64 s) ∧ Below w2.heap.size w2 w') (ds := [16]) #[false, false, false, false, false, false, false, false, false, false, false, false, false, false, false, false, false, false] (by kernel_rfl) rfl rfl ⟨f0, f1, f2, f3, f4⟩ (fun hHeld => ?_)
          refine pure_ (i := 0) (N := some 41) (v := ?_) (a' := ?_) #[true, false, false, false, false, false, false, false, false, false, false, false, false, false, false, false, false, false] rfl rfl (by kernel_rfl) (fun _ _ _ h => h) (Or.inl ⟨by rfl, ?_⟩) ?_ ?_
          rotate_left
          · intro w'
            go_simp
            with_reducible rfl
          rotate_left
          · simp only [Act.put, List.setIfInBounds_toArray, List.set_cons_zero, List.set_cons_succ, i64_w, i32_w]
            rfl
          refine pure_ (i := 1) (N := some 42) (v := ?_) (a' := ?_) #[true, true, false, false, false, false, false, false, false, false, false, false, false, false, false, false, false, false] rfl rfl (by kernel_rfl) (fun _ _ _ h => h) (Or.inl ⟨by rfl, ?_⟩) ?_ ?_
          rotate_left
          · intro w'
            go_simp
            with_reducible rfl
          rotate_left
          · simp only [Act.put, List.setIfInBounds_toArray, List.set_cons_zero, List.set_cons_succ, i64_w, i32_w]
            rfl
          refine pure_ (i := 2) (N := some 43) (v := ?_) (a' := ?_) #[true, true, true, false, false, false, false, false, false, false, false, false, false, false, false, false, false, false] rfl rfl (by kernel_rfl) (fun _ _ _ h => h) (Or.inl ⟨by rfl, ?_⟩) ?_ ?_
          rotate_left
          · intro w'
            go_simp
            with_reducible rfl
          rotate_left
          · simp only [Act.put, List.setIfInBounds_toArray, List.set_cons_zero, List.set_cons_succ, i64_w, i32_w]
            rfl
          refine pure_ (i := 3) (N := some 44) (v := ?_) (a' := ?_) #[true, true, true, true, false, false, false, false, false, false, false, false, false, false, false, false, false, false] rfl rfl (by kernel_rfl) (fun _ _ _ h => h) (Or.inl ⟨by rfl, ?_⟩) ?_ ?_
          rotate_left
          · intro w'
            go_simp
            with_reducible rfl
          rotate_left
          · simp only [Act.put, List.setIfInBounds_toArray, List.set_cons_zero, List.set_cons_succ, i64_w, i32_w]
            rfl
          refine pure_ (i := 4) (N := some 45) (v := ?_) (a' := ?_) #[true, true, true, true, true, false, false, false, false, false, false, false, false, false, false, false, false, false] rfl rfl (by kernel_rfl) (fun _ _ _ h => h) (Or.inl ⟨by rfl, ?_⟩) ?_ ?_
          rotate_left
          · intro w'
            go_simp
            with_reducible rfl
          rotate_left
          · simp only [Act.put, List.setIfInBounds_toArray, List.set_cons_zero, List.set_cons_succ, i64_w, i32_w]
            rfl
          refine pure_ (i := 6) (N := some 47) (v := ?_) (a' := ?_) #[true, true, true, true, true, false, true, false, false, false, false, false, false, false, false, false, false, false] rfl rfl (by kernel_rfl) (fun _ _ _ h => h) (Or.inl ⟨by rfl, ?_⟩) ?_ ?_
          rotate_left
          · intro w'
            go_simp
            with_reducible rfl
          rotate_left
          · simp only [Act.put, List.setIfInBounds_toArray, List.set_cons_zero, List.set_cons_succ, i64_w, i32_w]
            rfl
          refine pure_ (i := 7) (N := some 48) (v := ?_) (a' := ?_) #[true, true, true, true, true, false, true, true, false, false, false, false, false, false, false, false, false, false] rfl rfl (by kernel_rfl) (fun _ _ _ h => h) (Or.inl ⟨by rfl, ?_⟩) ?_ ?_
          rotate_left
          · intro w'
            go_simp
            with_reducible rfl
          rotate_left
          · simp only [Act.put, List.setIfInBounds_toArray, List.set_cons_zero, List.set_cons_succ, i64_w, i32_w]
            rfl
          refine pure_ (i := 8) (N := some 49) (v := ?_) (a' := ?_) #[true, true, true, true, true, false, true, true, true, false, false, false, false, false, false, false, false, false] rfl rfl (by kernel_rfl) (fun _ _ _ h => h) (Or.inl ⟨by rfl, ?_⟩) ?_ ?_
          rotate_left
          · intro w'
            go_simp
            with_reducible rfl
          rotate_left
          · simp only [Act.put, List.setIfInBounds_toArray, List.set_cons_zero, List.set_cons_succ, i64_w, i32_w]
            rfl
          refine pure_ (i := 9) (N := some 50) (v := ?_) (a' := ?_) #[true, true, true, true, true, false, true, true, true, true, false, false, false, false, false, false, false, false] rfl rfl (by kernel_rfl) (fun _ _ _ h => h) (Or.inl ⟨by rfl, ?_⟩) ?_ ?_
          rotate_left
          · intro w'
            go_simp
            with_reducible rfl
          rotate_left
          · simp only [Act.put, List.setIfInBounds_toArray, List.set_cons_zero, List.set_cons_succ, i64_w, i32_w]
            rfl
          refine take_ (i := 5) (N := some 46) (v := ?_) (a' := ?_) #[true, true, true, true, true, true, true, true, true, true, false, false, false, false, false, false, false, false] rfl rfl (by kernel_rfl) (fun _ _ _ h => h) (Or.inl ⟨by rfl, ?_⟩) hHeld ?_ ?_
          rotate_left
          · rintro w' ⟨s0, s1, s2, s3, s4⟩
            go_simp
            with_reducible rfl
          rotate_left
          · simp only [Act.put, List.setIfInBounds_toArray, List.set_cons_zero, List.set_cons_succ, i64_w, i32_w]
            rfl
          refine take_ (i := 10) (N := some 51) (v := ?_) (a' := ?_) #[true, true, true, true, true, true, true, true, true, true, true, false, false, false, false, false, false, false] rfl rfl (by kernel_rfl) (fun _ _ _ h => h) (Or.inl ⟨by rfl, ?_⟩) hHeld ?_ ?_
          rotate_left
          · rintro w' ⟨s0, s1, s2, s3, s4⟩
            go_simp
            with_reducible rfl
          rotate_left
          · simp only [Act.put, List.setIfInBounds_toArray, List.set_cons_zero, List.set_cons_succ, i64_w, i32_w]
            rfl
          refine join_ (σ := Nat) 2 #[true, true, true, true, true, true, true, true, true, true, true, true, true, true, true, true, false, false] (fun s_ => [(52, .tuple #[.agg #[.string k, .string v, .bool g, .int .i64 s], .bool true]), (9, .pointer (some ⟨s_, 0, none⟩)), (40, .tuple #[.agg #[.string k, .string v, .bool g, .int .i64 s], .bool true]), (53, .agg #[.string k, .string v, .bool g, .int .i64 s]), (54, .bool true)]) (fun s_ w' => (w'.cell? (ad.add (i * 4)) = some (.string k) ∧ w'.cell? ⟨(ad.add (i * 4)).block, (ad.add (i * 4)).off + 1, none⟩ = some (.string v) ∧ w'.cell? ⟨(ad.add (i * 4)).block, (ad.add (i * 4)).off + 2, none⟩ = some (.bool g) ∧ w'.cell? ⟨(ad.add (i * 4)).block, (ad.add (i * 4)).off + 3, none⟩ = some (.int .i64 s) ∧ Below w2.heap.size w2 w') ∧ w'.heap[s_]? = some (.cells #[.string ⟨#[]⟩, .string ⟨#[]⟩, .bool false, .int .i64 0] 43 (0, 0)) ∧ w2.heap.size ≤ s_) ?_ ?_
          rotate_left
          · intro hCont
            refine two_ (i := 11) (j := 15) (Ni := some 52) (Nj := some 9) #[true, true, true, true, true, true, true, true, true, true, true, true, false, false, false, false, false, false] #[true, true, true, true, true, true, true, true, true, true, true, false, false, false, false, true, false, false] rfl rfl rfl rfl (by kernel_rfl) (by decide) (by decide) (fun K hK => ?_) (fun K hK => ?_)
            · skip
              refine goes_ Try.func22 (by kernel_rfl) rfl #[.pointer (some p), .string k, .int .i64 s] (by rfl) rfl rfl (by simp only [List.map_toArray, List.map_cons, List.map_nil]; rfl) ?_
              with_reducible refine (get_self _ m i k v g s _ (HT2.out.below hHeld.2.2.2.2) HOK.out HLT.out HX.out).mono ?_
              rintro e1 w3 ⟨rfl, hb3⟩
              refine ⟨_, rfl, ?_⟩
              have hgs : w2.heap.size ≤ w3.heap.size := Nat.le_trans (hHeld.2.2.2.2).size hb3.size
              refine hK.out _ _ ⟨(hb3.cell (World.block_lt_of_cell? _ _ hHeld.1)).trans hHeld.1, (hb3.cell (World.block_lt_of_cell? _ _ hHeld.2.1)).trans hHeld.2.1, (hb3.cell (World.block_lt_of_cell? _ _ hHeld.2.2.1)).trans hHeld.2.2.1, (hb3.cell (World.block_lt_of_cell? _ _ hHeld.2.2.2.1)).trans hHeld.2.2.2.1, (hHeld.2.2.2.2).trans (below_at_ hb3 (hHeld.2.2.2.2).size)⟩ (fun hHeld => ?_)
              clear hK K
              refine norm_ (a' := ?_) ?_ ?_
              rotate_left
              · show Act.put _ (some 52) _ = _
                simp only [Act.put, List.setIfInBounds_toArray, List.set_cons_zero, List.set_cons_succ, i64_w, i32_w]
                rfl
              refine pure_ (i := 12) (N := some 40) (v := ?_) (a' := ?_) #[true, true, true, true, true, true, true, true, true, true, true, true, true, false, false, false, false, false] rfl rfl (by kernel_rfl) (fun _ _ _ h => h) (Or.inl ⟨by rfl, ?_⟩) ?_ ?_
              rotate_left
              · intro w'
                go_simp
                with_reducible rfl
              rotate_left
              · simp only [Act.put, List.setIfInBounds_toArray, List.set_cons_zero, List.set_cons_succ, i64_w, i32_w]
                rfl
              refine pure_ (i := 13) (N := some 53) (v := ?_) (a' := ?_) #[true, true, true, true, true, true, true, true, true, true, true, true, true, true, false, false, false, false] rfl rfl (by kernel_rfl) (fun _ _ _ h => h) (Or.inl ⟨by rfl, ?_⟩) ?_ ?_
              rotate_left
              · intro w'
                go_simp
                with_reducible rfl
              rotate_left
              · simp only [Act.put, List.setIfInBounds_toArray, List.set_cons_zero, List.set_cons_succ, i64_w, i32_w]
                rfl
              refine pure_ (i := 14) (N := some 54) (v := ?_) (a' := ?_) #[true, true, true, true, true, true, true, true, true, true, true, true, true, true, true, false, false, false] rfl rfl (by kernel_rfl) (fun _ _ _ h => h) (Or.inl ⟨by rfl, ?_⟩) ?_ ?_
              rotate_left
              · intro w'
                go_simp
                with_reducible rfl
              rotate_left
              · simp only [Act.put, List.setIfInBounds_toArray, List.set_cons_zero, List.set_cons_succ, i64_w, i32_w]
                rfl
              refine one_ (i := 15) (N := some 9) #[true, true, true, true, true, true, true, true, true, true, true, true, true, true, true, true, false, false] rfl rfl (by kernel_rfl) (by decide) (fun K hK => ?_)
              refine boxv_ (cs := #[.string ⟨#[]⟩, .string ⟨#[]⟩, .bool false, .int .i64 0]) (t := 43) (by rfl) rfl (by first | (go_simp; done) | (go_simp; rfl)) ?_
              intro gb w5 hz hb5 hgb
              have hgs2 := Nat.le_trans (hHeld.2.2.2.2).size hgb
              refine hK.out _ _ ⟨(hb5.cell (World.block_lt_of_cell? _ _ hHeld.1)).trans hHeld.1, (hb5.cell (World.block_lt_of_cell? _ _ hHeld.2.1)).trans hHeld.2.1, (hb5.cell (World.block_lt_of_cell? _ _ hHeld.2.2.1)).trans hHeld.2.2.1, (hb5.cell (World.block_lt_of_cell? _ _ hHeld.2.2.2.1)).trans hHeld.2.2.2.1, (hHeld.2.2.2.2).trans (below_at_ hb5 (hHeld.2.2.2.2).size)⟩ (fun hHeld => ?_)
              clear hK K
              refine norm_ (a' := ?_) ?_ ?_
              rotate_left
              · show Act.put _ (some 9) _ = _
                simp only [Act.put, List.setIfInBounds_toArray, List.set_cons_zero, List.set_cons_succ, i64_w, i32_w]
                rfl
              exact norm_ (by simp only [putAll, Act.put, List.setIfInBounds_toArray, List.set_cons_zero, List.set_cons_succ]) (hCont gb _ ⟨hHeld, hz, hgs2⟩)
            · skip
              refine boxv_ (cs := #[.string ⟨#[]⟩, .string ⟨#[]⟩, .bool false, .int .i64 0]) (t := 43) (by rfl) rfl (by first | (go_simp; done) | (go_simp; rfl)) ?_
              intro gb w5 hz hb5 hgb
              have hgs := Nat.le_trans (hHeld.2.2.2.2).size hgb
              refine hK.out _ _ ⟨(hb5.cell (World.block_lt_of_cell? _ _ hHeld.1)).trans hHeld.1, (hb5.cell (World.block_lt_of_cell? _ _ hHeld.2.1)).trans hHeld.2.1, (hb5.cell (World.block_lt_of_cell? _ _ hHeld.2.2.1)).trans hHeld.2.2.1, (hb5.cell (World.block_lt_of_cell? _ _ hHeld.2.2.2.1)).trans hHeld.2.2.2.1, (hHeld.2.2.2.2).trans (below_at_ hb5 (hHeld.2.2.2.2).size)⟩ (fun hHeld => ?_)
              clear hK K
              refine norm_ (a' := ?_) ?_ ?_
              rotate_left
              · show Act.put _ (some 9) _ = _
                simp only [Act.put, List.setIfInBounds_toArray, List.set_cons_zero, List.set_cons_succ, i64_w, i32_w]
                rfl
              refine one_ (i := 11) (N := some 52) #[true, true, true, true, true, true, true, true, true, true, true, true, false, false, false, true, false, false] rfl rfl (by kernel_rfl) (by decide) (fun K hK => ?_)
              refine goes_ Try.func22 (by kernel_rfl) rfl #[.pointer (some p), .string k, .int .i64 s] (by rfl) rfl rfl (by simp only [List.map_toArray, List.map_cons, List.map_nil]; rfl) ?_
              with_reducible refine (get_self _ m i k v g s _ (HT2.out.below hHeld.2.2.2.2) HOK.out HLT.out HX.out).mono ?_
              rintro e1 w3 ⟨rfl, hb3⟩
              refine ⟨_, rfl, ?_⟩
              have hzz := blk_below hz hb3
              refine hK.out _ _ ⟨(hb3.cell (World.block_lt_of_cell? _ _ hHeld.1)).trans hHeld.1, (hb3.cell (World.block_lt_of_cell? _ _ hHeld.2.1)).trans hHeld.2.1, (hb3.cell (World.block_lt_of_cell? _ _ hHeld.2.2.1)).trans hHeld.2.2.1, (hb3.cell (World.block_lt_of_cell? _ _ hHeld.2.2.2.1)).trans hHeld.2.2.2.1, (hHeld.2.2.2.2).trans (below_at_ hb3 (hHeld.2.2.2.2).size)⟩ (fun hHeld => ?_)
              clear hK K
              refine norm_ (a' := ?_) ?_ ?_
              rotate_left
              · show Act.put _ (some 52) _ = _
                simp only [Act.put, List.setIfInBounds_toArray, List.set_cons_zero, List.set_cons_succ, i64_w, i32_w]
                rfl
              refine pure_ (i := 12) (N := some 40) (v := ?_) (a' := ?_) #[true, true, true, true, true, true, true, true, true, true, true, true, true, false, false, true, false, false] rfl rfl (by kernel_rfl) (fun _ _ _ h => h) (Or.inl ⟨by rfl, ?_⟩) ?_ ?_
              rotate_left
              · intro w'
                go_simp
                with_reducible rfl
              rotate_left
              · simp only [Act.put, List.setIfInBounds_toArray, List.set_cons_zero, List.set_cons_succ, i64_w, i32_w]
                rfl
              refine pure_ (i := 13) (N := some 53) (v := ?_) (a' := ?_) #[true, true, true, true, true, true, true, true, true, true, true, true, true, true, false, true, false, false] rfl rfl (by kernel_rfl) (fun _ _ _ h => h) (Or.inl ⟨by rfl, ?_⟩) ?_ ?_
              rotate_left
              · intro w'
                go_simp
                with_reducible rfl
              rotate_left
              · simp only [Act.put, List.setIfInBounds_toArray, List.set_cons_zero, List.set_cons_succ, i64_w, i32_w]
                rfl
              refine pure_ (i := 14) (N := some 54) (v := ?_) (a' := ?_) #[true, true, true, true, true, true, true, true, true, true, true, true, true, true, true, true, false, false] rfl rfl (by kernel_rfl) (fun _ _ _ h => h) (Or.inl ⟨by rfl, ?_⟩) ?_ ?_
              rotate_left
              · intro w'
                go_simp
                with_reducible rfl
              rotate_left
              · simp only [Act.put, List.setIfInBounds_toArray, List.set_cons_zero, List.set_cons_succ, i64_w, i32_w]
                rfl
              exact norm_ (by simp only [putAll, Act.put, List.setIfInBounds_toArray, List.set_cons_zero, List.set_cons_succ]) (hCont gb _ ⟨hHeld, hzz, hgs⟩)
          rintro gb w5 ⟨hS_, hz, hgb⟩
          have hHeld : w5.cell? (ad.add (i * 4)) = some (.string k) ∧ w5.cell? ⟨(ad.add (i * 4)).block, (ad.add (i * 4)).off + 1, none⟩ = some (.string v) ∧ w5.cell? ⟨(ad.add (i * 4)).block, (ad.add (i * 4)).off + 2, none⟩ = some (.bool g) ∧ w5.cell? ⟨(ad.add (i * 4)).block, (ad.add (i * 4)).off + 3, none⟩ = some (.int .i64 s) ∧ Below w2.heap.size w2 w5 := hS_
          have z0 : w5.cell? ⟨gb, 0, none⟩ = some (.string ⟨#[]⟩) := (blk_cell hz 0).trans rfl
          have z1 : w5.cell? ⟨gb, 1, none⟩ = some (.string ⟨#[]⟩) := (blk_cell hz 1).trans rfl
          have z2 : w5.cell? ⟨gb, 2, none⟩ = some (.bool false) := (blk_cell hz 2).trans rfl
          have z3 : w5.cell? ⟨gb, 3, none⟩ = some (.int .i64 0) := (blk_cell hz 3).trans rfl
          have zf0 := blk_frozen hz 0
          have zf1 := blk_frozen hz 1
          have zf2 := blk_frozen hz 2
          have zf3 := blk_frozen hz 3
          have hbw : Below w2.heap.size w2 w5 := hHeld.2.2.2.2
          refine norm_ (a' := ?_) ?_ ?_
          rotate_left
          · simp only [putAll, Act.put, List.setIfInBounds_toArray, List.set_cons_zero, List.set_cons_succ]
            rfl
          refine last_ (i := 16) (N := none) #[true, true, true, true, true, true, true, true, true, true, true, true, true, true, true, true, true, false] rfl rfl (by kernel_rfl) (by decide) (fun K hK => ?_)
          refine skip_ (w1 := ?_) (by rfl) rfl ?_ ?_
          rotate_left
          · go_simp
            rfl
          refine hK.out _ _ ?_
          clear hK K
          refine pure_ (i := 17) (N := some 10) (v := ?_) (a' := ?_) #[true, true, true, true, true, true, true, true, true, true, true, true, true, true, true, true, true, true] rfl rfl (by kernel_rfl) (fun _ _ _ h => h) (Or.inl ⟨by rfl, ?_⟩) ?_ ?_
          rotate_left
          · intro w'
            go_simp
            with_reducible rfl
          rotate_left
          · simp only [Act.put, List.setIfInBounds_toArray, List.set_cons_zero, List.set_cons_succ, i64_w, i32_w]
            rfl
          refine done_ (by kernel_rfl) ?_
          have hz6 := tput4 (x0 := .string k) (x1 := .string v) (x2 := .bool g) (x3 := .int .i64 s) hz
          have hb6 : Below w2.heap.size w2 ((((w5.setCell ⟨gb, 0, none⟩ (.string k)).setCell ⟨gb, 1, none⟩ (.string v)).setCell ⟨gb, 2, none⟩ (.bool g)).setCell ⟨gb, 3, none⟩ (.int .i64 s)) := below_set (below_set (below_set (below_set hbw hgb) hgb) hgb) hgb
          clear hHeld hbw hz hgb z0 z1 z2 z3 zf0 zf1 zf2 zf3 f0 f1 f2 f3 f4
          generalize ((((w5.setCell ⟨gb, 0, none⟩ (.string k)).setCell ⟨gb, 1, none⟩ (.string v)).setCell ⟨gb, 2, none⟩ (.bool g)).setCell ⟨gb, 3, none⟩ (.int .i64 s)) = w6 at hz6 hb6 ⊢
          obtain ⟨ad', ea', u0, u1, u2, u3⟩ := at_T43 (Kd.C_below HM2.out hb6) (i : Int) (by omega) (by have := HLT.out; omega)
          injection ea' with ea'
          subst ea'
          rw [HX.out, Int.toNat_natCast] at u0
          rw [HX.out, Int.toNat_natCast] at u1 u2 u3
          dsimp only at u0 u1 u2 u3
          have HB6 := Aside0.mk hb6
          have HZ6 := Aside0.mk hz6
          have U0 := Aside0.mk u0
          have U1 := Aside0.mk u1
          have U2 := Aside0.mk u2
          have U3 := Aside0.mk u3
          clear hb6 hz6 u0 u1 u2 u3 y0 y1 y2 y3
          go_wp2
          have hzd := blk_drew HZ6.out
          have f0 : w6.drew.cell? (ad.add (i * 4)) = some (.string k) := U0.out
          have f1 : w6.drew.cell? ⟨(ad.add (i * 4)).block, (ad.add (i * 4)).off + 1, none⟩ = some (.string v) := U1.out
          have f2 : w6.drew.cell? ⟨(ad.add (i * 4)).block, (ad.add (i * 4)).off + 2, none⟩ = some (.bool g) := U2.out
          have f3 : w6.drew.cell? ⟨(ad.add (i * 4)).block, (ad.add (i * 4)).off + 3, none⟩ = some (.int .i64 s) := U3.out
          have f4 := below_drew HB6.out
          refine start_ (n := 20) (S := fun w' => w'.cell? (ad.add (i * 4)) = some (.string k) ∧ w'.cell? ⟨(ad.add (i * 4)).block, (ad.add (i * 4)).off + 1, none⟩ = some (.string v) ∧ w'.cell? ⟨(ad.add (i * 4)).block, (ad.add (i * 4)).off + 2, none⟩ = some (.bool g) ∧ w'.cell? ⟨(ad.add (i * 4)).block, (ad.add (i * 4)).off + 3, none⟩ = some (.int .i64 s) ∧ w'.cell? ⟨gb, 0, none⟩ = some (.string k) ∧ w'.cell? ⟨gb, 1, none⟩ = some (.string v) ∧ w'.cell? ⟨gb, 2, none⟩ = some (.bool g) ∧ w'.cell? ⟨gb, 3, none⟩ = some (.int .i64 s) ∧ Below w2.heap.size w2 w') (ds := []) #[false, false, false, false, false, false, false, false, false, false, false, false, false, false, false, false, false, false, false, false] (by kernel_rfl) rfl rfl ⟨f0, f1, f2, f3, (blk_cell hzd 0).trans rfl, (blk_cell hzd 1).trans rfl, (blk_cell hzd 2).trans rfl, (blk_cell hzd 3).trans rfl, f4⟩ (fun hHeld => ?_)
          refine pure_ (i := 0) (N := some 55) (v := ?_) (a' := ?_) #[true, false, false, false, false, false, false, false, false, false, false, false, false, false, false, false, false, false, false, false] rfl rfl (by kernel_rfl) (fun _ _ _ h => h) (Or.inl ⟨by rfl, ?_⟩) ?_ ?_
          rotate_left
          · intro w'
            go_simp
            with_reducible rfl
          rotate_left
          · simp only [Act.put, List.setIfInBounds_toArray, List.set_cons_zero, List.set_cons_succ, i64_w, i32_w]
            rfl
          refine pure_ (i := 1) (N := some 56) (v := ?_) (a' := ?_) #[true, true, false, false, false, false, false, false, false, false, false, false, false, false, false, false, false, false, false, false] rfl rfl (by kernel_rfl) (fun _ _ _ h => h) (Or.inl ⟨by rfl, ?_⟩) ?_ ?_
          rotate_left
          · intro w'
            go_simp
            with_reducible rfl
          rotate_left
          · simp only [Act.put, List.setIfInBounds_toArray, List.set_cons_zero, List.set_cons_succ, i64_w, i32_w]
            rfl
          refine pure_ (i := 2) (N := some 57) (v := ?_) (a' := ?_) #[true, true, true, false, false, false, false, false, false, false, false, false, false, false, false, false, false, false, false, false] rfl rfl (by kernel_rfl) (fun _ _ _ h => h) (Or.inl ⟨by rfl, ?_⟩) ?_ ?_
          rotate_left
          · intro w'
            go_simp
            with_reducible rfl
          rotate_left
          · simp only [Act.put, List.setIfInBounds_toArray, List.set_cons_zero, List.set_cons_succ, i64_w, i32_w]
            rfl
          refine pure_ (i := 3) (N := some 58) (v := ?_) (a' := ?_) #[true, true, true, true, false, false, false, false, false, false, false, false, false, false, false, false, false, false, false, false] rfl rfl (by kernel_rfl) (fun _ _ _ h => h) (Or.inl ⟨by rfl, ?_⟩) ?_ ?_
          rotate_left
          · intro w'
            go_simp
            with_reducible rfl
          rotate_left
          · simp only [Act.put, List.setIfInBounds_toArray, List.set_cons_zero, List.set_cons_succ, i64_w, i32_w]
            rfl
          refine pure_ (i := 4) (N := some 59) (v := ?_) (a' := ?_) #[true, true, true, true, true, false, false, false, false, false, false, false, false, false, false, false, false, false, false, false] rfl rfl (by kernel_rfl) (fun _ _ _ h => h) (Or.inl ⟨by rfl, ?_⟩) ?_ ?_
          rotate_left
          · intro w'
            go_simp
            with_reducible rfl
          rotate_left
          · simp only [Act.put, List.setIfInBounds_toArray, List.set_cons_zero, List.set_cons_succ, i64_w, i32_w]
            rfl
          refine take_ (i := 5) (N := some 60) (v := ?_) (a' := ?_) #[true, true, true, true, true, true, false, false, false, false, false, false, false, false, false, false, false, false, false, false] rfl rfl (by kernel_rfl) (fun _ _ _ h => h) (Or.inl ⟨by rfl, ?_⟩) hHeld ?_ ?_
          rotate_left
          · rintro w' ⟨s0, s1, s2, s3, s4, s5, s6, s7, s8⟩
            go_simp
            with_reducible rfl
          rotate_left
          · simp only [Act.put, List.setIfInBounds_toArray, List.set_cons_zero, List.set_cons_succ, i64_w, i32_w]
            rfl
          refine one_ (i := 6) (N := some 61) #[true, true, true, true, true, true, true, false, false, false, false, false, false, false, false, false, false, false, false, false] rfl rfl (by kernel_rfl) (by decide) (fun K hK => ?_)
          refine goes_ Try.func23 (by kernel_rfl) rfl #[.pointer (some p), .string k] (by rfl) rfl rfl (by simp only [List.map_toArray, List.map_cons, List.map_nil]; rfl) ?_
          with_reducible refine (may_self _ m i k v g s _ (HT2.out.below hHeld.2.2.2.2.2.2.2.2) HOK.out HLT.out HX.out).mono ?_
          rintro e1 w7 ⟨rfl, hb7⟩
          refine ⟨_, rfl, ?_⟩
          refine hK.out _ _ ⟨(hb7.cell (World.block_lt_of_cell? _ _ hHeld.1)).trans hHeld.1, (hb7.cell (World.block_lt_of_cell? _ _ hHeld.2.1)).trans hHeld.2.1, (hb7.cell (World.block_lt_of_cell? _ _ hHeld.2.2.1)).trans hHeld.2.2.1, (hb7.cell (World.block_lt_of_cell? _ _ hHeld.2.2.2.1)).trans hHeld.2.2.2.1, (hb7.cell (World.block_lt_of_cell? _ _ hHeld.2.2.2.2.1)).trans hHeld.2.2.2.2.1, (hb7.cell (World.block_lt_of_cell? _ _ hHeld.2.2.2.2.2.1)).trans hHeld.2.2.2.2.2.1, (hb7.cell (World.block_lt_of_cell? _ _ hHeld.2.2.2.2.2.2.1)).trans hHeld.2.2.2.2.2.2.1, (hb7.cell (World.block_lt_of_cell? _ _ hHeld.2.2.2.2.2.2.2.1)).trans hHeld.2.2.2.2.2.2.2.1, (hHeld.2.2.2.2.2.2.2.2).trans (below_at_ hb7 (hHeld.2.2.2.2.2.2.2.2).size)⟩ (fun hHeld => ?_)
          clear hK K
          refine norm_ (a' := ?_) ?_ ?_
          rotate_left
          · show Act.put _ (some 61) _ = _
            simp only [Act.put, List.setIfInBounds_toArray, List.set_cons_zero, List.set_cons_succ, i64_w, i32_w]
            rfl
          refine pure_ (i := 7) (N := some 62) (v := ?_) (a' := ?_) #[true, true, true, true, true, true, true, true, false, false, false, false, false, false, false, false, false, false, false, false] rfl rfl (by kernel_rfl) (fun _ _ _ h => h) (Or.inl ⟨by rfl, ?_⟩) ?_ ?_
          rotate_left
          · intro w'
            go_simp
            with_reducible rfl
          rotate_left
          · simp only [Act.put, List.setIfInBounds_toArray, List.set_cons_zero, List.set_cons_succ, i64_w, i32_w]
            rfl
          refine pure_ (i := 8) (N := some 63) (v := ?_) (a' := ?_) #[true, true, true, true, true, true, true, true, true, false, false, false, false, false, false, false, false, false, false, false] rfl rfl (by kernel_rfl) (fun _ _ _ h => h) (Or.inl ⟨by rfl, ?_⟩) ?_ ?_
          rotate_left
          · intro w'
            go_simp
            with_reducible rfl
          rotate_left
          · simp only [Act.put, List.setIfInBounds_toArray, List.set_cons_zero, List.set_cons_succ, i64_w, i32_w]
            rfl
          refine pure_ (i := 10) (N := some 65) (v := ?_) (a' := ?_) #[true, true, true, true, true, true, true, true, true, false, true, false, false, false, false, false, false, false, false, false] rfl rfl (by kernel_rfl) (fun _ _ _ h => h) (Or.inl ⟨by rfl, ?_⟩) ?_ ?_
          rotate_left
          · intro w'
            go_simp
            with_reducible rfl
          rotate_left
          · simp only [Act.put, List.setIfInBounds_toArray, List.set_cons_zero, List.set_cons_succ, i64_w, i32_w]
            rfl
          refine pure_ (i := 11) (N := some 66) (v := ?_) (a' := ?_) #[true, true, true, true, true, true, true, true, true, false, true, true, false, false, false, false, false, false, false, false] rfl rfl (by kernel_rfl) (fun _ _ _ h => h) (Or.inl ⟨by rfl, ?_⟩) ?_ ?_
          rotate_left
          · intro w'
            go_simp
            with_reducible rfl
          rotate_left
          · simp only [Act.put, List.setIfInBounds_toArray, List.set_cons_zero, List.set_cons_succ, i64_w, i32_w]
            rfl
          refine pure_ (i := 12) (N := some 67) (v := ?_) (a' := ?_) #[true, true, true, true, true, true, true, true, true, false, true, true, true, false, false, false, false, false, false, false] rfl rfl (by kernel_rfl) (fun _ _ _ h => h) (Or.inl ⟨by rfl, ?_⟩) ?_ ?_
          rotate_left
          · intro w'
            go_simp
            with_reducible rfl
          rotate_left
          · simp only [Act.put, List.setIfInBounds_toArray, List.set_cons_zero, List.set_cons_succ, i64_w, i32_w]
            rfl
          refine take_ (i := 9) (N := some 64) (v := ?_) (a' := ?_) #[true, true, true, true, true, true, true, true, true, true, true, true, true, false, false, false, false, false, false, false] rfl rfl (by kernel_rfl) (fun _ _ _ h => h) (Or.inl ⟨by rfl, ?_⟩) hHeld ?_ ?_
          rotate_left
          · rintro w' ⟨s0, s1, s2, s3, s4, s5, s6, s7, s8⟩
            go_simp
            with_reducible rfl
          rotate_left
          · simp only [Act.put, List.setIfInBounds_toArray, List.set_cons_zero, List.set_cons_succ, i64_w, i32_w]
            rfl
          refine take_ (i := 13) (N := some 68) (v := ?_) (a' := ?_) #[true, true, true, true, true, true, true, true, true, true, true, true, true, true, false, false, false, false, false, false] rfl rfl (by kernel_rfl) (fun _ _ _ h => h) (Or.inl ⟨by rfl, ?_⟩) hHeld ?_ ?_
          rotate_left
          · rintro w' ⟨s0, s1, s2, s3, s4, s5, s6, s7, s8⟩
            go_simp
            with_reducible rfl
          rotate_left
          · simp only [Act.put, List.setIfInBounds_toArray, List.set_cons_zero, List.set_cons_succ, i64_w, i32_w]
            rfl
          refine pure_ (i := 14) (N := some 69) (v := ?_) (a' := ?_) #[true, true, true, true, true, true, true, true, true, true, true, true, true, true, true, false, false, false, false, false] rfl rfl (by kernel_rfl) (fun _ _ _ h => h) (Or.inl ⟨by rfl, ?_⟩) ?_ ?_
          rotate_left
          · intro w'
            go_simp
            with_reducible rfl
          rotate_left
          · simp only [Act.put, List.setIfInBounds_toArray, List.set_cons_zero, List.set_cons_succ, i64_w, i32_w]
            rfl
          refine pure_ (i := 15) (N := some 70) (v := ?_) (a' := ?_) #[true, true, true, true, true, true, true, true, true, true, true, true, true, true, true, true, false, false, false, false] rfl rfl (by kernel_rfl) (fun _ _ _ h => h) (Or.inl ⟨by rfl, ?_⟩) ?_ ?_
          rotate_left
          · intro w'
            go_simp
            with_reducible rfl
          rotate_left
          · simp only [Act.put, List.setIfInBounds_toArray, List.set_cons_zero, List.set_cons_succ, i64_w, i32_w]
            rfl
          refine pure_ (i := 16) (N := some 71) (v := ?_) (a' := ?_) #[true, true, true, true, true, true, true, true, true, true, true, true, true, true, true, true, true, false, false, false] rfl rfl (by kernel_rfl) (fun _ _ _ h => h) (Or.inl ⟨by rfl, ?_⟩) ?_ ?_
          rotate_left
          · intro w'
            go_simp
            with_reducible rfl
          rotate_left
          · simp only [Act.put, List.setIfInBounds_toArray, List.set_cons_zero, List.set_cons_succ, i64_w, i32_w]
            rfl
          refine pure_ (i := 17) (N := some 72) (v := ?_) (a' := ?_) #[true, true, true, true, true, true, true, true, true, true, true, true, true, true, true, true, true, true, false, false] rfl rfl (by kernel_rfl) (fun _ _ _ h => h) (Or.inl ⟨by rfl, ?_⟩) ?_ ?_
          rotate_left
          · intro w'
            go_simp
            with_reducible rfl
          rotate_left
          · simp only [Act.put, List.setIfInBounds_toArray, List.set_cons_zero, List.set_cons_succ, i64_w, i32_w]
            rfl
          refine pure_ (i := 18) (N := some 73) (v := ?_) (a' := ?_) #[true, true, true, true, true, true, true, true, true, true, true, true, true, true, true, true, true, true, true, false] rfl rfl (by kernel_rfl) (fun _ _ _ h => h) (Or.inl ⟨by rfl, ?_⟩) ?_ ?_
          rotate_left
          · intro w'
            go_simp
            with_reducible rfl
          rotate_left
          · simp only [Act.put, List.setIfInBounds_toArray, List.set_cons_zero, List.set_cons_succ, i64_w, i32_w]
            rfl
          refine pure_ (i := 19) (N := some 74) (v := ?_) (a' := ?_) #[true, true, true, true, true, true, true, true, true, true, true, true, true, true, true, true, true, true, true, true] rfl rfl (by kernel_rfl) (fun _ _ _ h => h) (Or.inl ⟨by rfl, ?_⟩) ?_ ?_
          rotate_left
          · intro w'
            go_simp
            with_reducible rfl
          rotate_left
          · simp only [Act.put, List.setIfInBounds_toArray, List.set_cons_zero, List.set_cons_succ, i64_w, i32_w]
            rfl
          refine done_ (by kernel_rfl) ?_
          have HB10 := Aside0.mk hHeld.2.2.2.2.2.2.2.2
          have hw := HW.out
          clear hHeld f0 f1 f2 f3 f4 hzd
          go_wp2
          go_roundg k1
          case measure => omega
          case rel => exact ⟨i + 1, by rw [HW.out], HI2, HB10⟩
theorem law_may {R P1 : Prop} (a0 : Option Addr) (c0 : Nat) (l0 : List S43) (x1 : ByteArray) {W : World} (hC : Kd.C k43 W a0 l0.length l0) (hl : l0.length ≤ c0) (_ : R) (_ : P1) :
    Calls Try.prog 5 #[.slice a0 l0.length c0, .string x1] W fun e w' => e = .returned (.bool true) ∧ Below W.heap.size W w' := may_law a0 c0 l0 x1 W hC hl
end Go.Proofs.Ytlmoafkmhenejaa.XA
