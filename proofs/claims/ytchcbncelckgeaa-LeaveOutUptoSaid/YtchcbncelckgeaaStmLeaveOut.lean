/- The one pure statement of LeaveOut: what is left of it without Go and memory. -/
import Derived.Test.YtchcbncelckgeaaOpenB
import Derived.Test.YtchcbncelckgeaaPMLeaveOut
set_option linter.unusedVariables false
namespace Go.Proofs.Ytchcbncelckgeaa.LeaveOutS
open Go.RowKit Go.Proofs.YtchcbncelckgeaaW.PrintWords Go.Proofs.Ytchcbncelckgeaa.OpnB Go.Proofs.Ytchcbncelckgeaa.PM
/-! #### struct type 57 -/
structure S57 where
  f0 : (List S50)
  f1 : (List S68)
  f2 : (List ByteArray)
  f3 : (List S62)
  f4 : (List S71)
  f5 : (List S23)
  f6 : Int
  f7 : Int
def z57 : S57 := ⟨([] : List S50), ([] : List S68), ([] : List ByteArray), ([] : List S62), ([] : List S71), ([] : List S23), (0 : Int), (0 : Int)⟩
def k57 : Kd S57 := Kd.iso (Kd.pair (Kd.slice 50 k50) (Kd.pair (Kd.slice 68 k68) (Kd.pair (Kd.slice 9 Kd.string) (Kd.pair (Kd.slice 62 k62) (Kd.pair (Kd.slice 71 k71) (Kd.pair (Kd.slice 23 k23) (Kd.pair (Kd.int .i64) (Kd.int .i64)))))))) (fun x : S57 => (x.f0, x.f1, x.f2, x.f3, x.f4, x.f5, x.f6, x.f7))
theorem k57_open {w : World} {x : S57} {cs : List Value} (h : k57.K w x cs) : ∃ A0 c0 A1 c1 A2 c2 A3 c3 A4 c4 A5 c5, cs = [.slice A0 x.f0.length c0, .slice A1 x.f1.length c1, .slice A2 x.f2.length c2, .slice A3 x.f3.length c3, .slice A4 x.f4.length c4, .slice A5 x.f5.length c5, .int .i64 x.f6, .int .i64 x.f7] ∧ x.f0.length ≤ c0 ∧ k50.C w A0 x.f0.length x.f0 ∧ x.f1.length ≤ c1 ∧ k68.C w A1 x.f1.length x.f1 ∧ x.f2.length ≤ c2 ∧ Kd.string.C w A2 x.f2.length x.f2 ∧ x.f3.length ≤ c3 ∧ k62.C w A3 x.f3.length x.f3 ∧ x.f4.length ≤ c4 ∧ k71.C w A4 x.f4.length x.f4 ∧ x.f5.length ≤ c5 ∧ k23.C w A5 x.f5.length x.f5 := by
  obtain ⟨_, _, rfl, ⟨A0, c0, rfl, l0, g0⟩, ⟨_, _, rfl, ⟨A1, c1, rfl, l1, g1⟩, ⟨_, _, rfl, ⟨A2, c2, rfl, l2, g2⟩, ⟨_, _, rfl, ⟨A3, c3, rfl, l3, g3⟩, ⟨_, _, rfl, ⟨A4, c4, rfl, l4, g4⟩, ⟨_, _, rfl, ⟨A5, c5, rfl, l5, g5⟩, ⟨_, _, rfl, rfl, rfl⟩⟩⟩⟩⟩⟩⟩ := h
  exact ⟨A0, c0, A1, c1, A2, c2, A3, c3, A4, c4, A5, c5, rfl, l0, g0, l1, g1, l2, g2, l3, g3, l4, g4, l5, g5⟩
theorem k57_openM {w : World} {base : Nat} {ok : Nat → Prop} {x : S57} {cs : List Value} (h : k57.M w base ok x cs) : ∃ v0 v1 v2 v3 v4 v5, cs = [v0, v1, v2, v3, v4, v5, .int .i64 x.f6, .int .i64 x.f7] ∧ k50.R 50 w base ok v0 x.f0 ∧ k68.R 68 w base ok v1 x.f1 ∧ Kd.string.R 9 w base ok v2 x.f2 ∧ k62.R 62 w base ok v3 x.f3 ∧ k71.R 71 w base ok v4 x.f4 ∧ k23.R 23 w base ok v5 x.f5 := by
  obtain ⟨_, _, rfl, ⟨v0, rfl, g0⟩, ⟨_, _, rfl, ⟨v1, rfl, g1⟩, ⟨_, _, rfl, ⟨v2, rfl, g2⟩, ⟨_, _, rfl, ⟨v3, rfl, g3⟩, ⟨_, _, rfl, ⟨v4, rfl, g4⟩, ⟨_, _, rfl, ⟨v5, rfl, g5⟩, ⟨_, _, rfl, rfl, rfl⟩⟩⟩⟩⟩⟩⟩ := h
  exact ⟨v0, v1, v2, v3, v4, v5, rfl, g0, g1, g2, g3, g4, g5⟩
theorem k57_mk (w : World) (x : S57) {A0 : Option Addr} {c0 : Nat} (l0 : x.f0.length ≤ c0) (g0 : k50.C w A0 x.f0.length x.f0) {A1 : Option Addr} {c1 : Nat} (l1 : x.f1.length ≤ c1) (g1 : k68.C w A1 x.f1.length x.f1) {A2 : Option Addr} {c2 : Nat} (l2 : x.f2.length ≤ c2) (g2 : Kd.string.C w A2 x.f2.length x.f2) {A3 : Option Addr} {c3 : Nat} (l3 : x.f3.length ≤ c3) (g3 : k62.C w A3 x.f3.length x.f3) {A4 : Option Addr} {c4 : Nat} (l4 : x.f4.length ≤ c4) (g4 : k71.C w A4 x.f4.length x.f4) {A5 : Option Addr} {c5 : Nat} (l5 : x.f5.length ≤ c5) (g5 : k23.C w A5 x.f5.length x.f5) : k57.K w x [.slice A0 x.f0.length c0, .slice A1 x.f1.length c1, .slice A2 x.f2.length c2, .slice A3 x.f3.length c3, .slice A4 x.f4.length c4, .slice A5 x.f5.length c5, .int .i64 x.f6, .int .i64 x.f7] := ⟨[.slice A0 x.f0.length c0], [.slice A1 x.f1.length c1, .slice A2 x.f2.length c2, .slice A3 x.f3.length c3, .slice A4 x.f4.length c4, .slice A5 x.f5.length c5, .int .i64 x.f6, .int .i64 x.f7], rfl, ⟨A0, c0, rfl, l0, g0⟩, ⟨[.slice A1 x.f1.length c1], [.slice A2 x.f2.length c2, .slice A3 x.f3.length c3, .slice A4 x.f4.length c4, .slice A5 x.f5.length c5, .int .i64 x.f6, .int .i64 x.f7], rfl, ⟨A1, c1, rfl, l1, g1⟩, ⟨[.slice A2 x.f2.length c2], [.slice A3 x.f3.length c3, .slice A4 x.f4.length c4, .slice A5 x.f5.length c5, .int .i64 x.f6, .int .i64 x.f7], rfl, ⟨A2, c2, rfl, l2, g2⟩, ⟨[.slice A3 x.f3.length c3], [.slice A4 x.f4.length c4, .slice A5 x.f5.length c5, .int .i64 x.f6, .int .i64 x.f7], rfl, ⟨A3, c3, rfl, l3, g3⟩, ⟨[.slice A4 x.f4.length c4], [.slice A5 x.f5.length c5, .int .i64 x.f6, .int .i64 x.f7], rfl, ⟨A4, c4, rfl, l4, g4⟩, ⟨[.slice A5 x.f5.length c5], [.int .i64 x.f6, .int .i64 x.f7], rfl, ⟨A5, c5, rfl, l5, g5⟩, ⟨[.int .i64 x.f6], [.int .i64 x.f7], rfl, rfl, rfl⟩⟩⟩⟩⟩⟩⟩
theorem k57_mkM (w : World) (base : Nat) (ok : Nat → Prop) (x : S57) {v0 : Value} (g0 : k50.R 50 w base ok v0 x.f0) {v1 : Value} (g1 : k68.R 68 w base ok v1 x.f1) {v2 : Value} (g2 : Kd.string.R 9 w base ok v2 x.f2) {v3 : Value} (g3 : k62.R 62 w base ok v3 x.f3) {v4 : Value} (g4 : k71.R 71 w base ok v4 x.f4) {v5 : Value} (g5 : k23.R 23 w base ok v5 x.f5) : k57.M w base ok x [v0, v1, v2, v3, v4, v5, .int .i64 x.f6, .int .i64 x.f7] := ⟨[v0], [v1, v2, v3, v4, v5, .int .i64 x.f6, .int .i64 x.f7], rfl, ⟨v0, rfl, g0⟩, ⟨[v1], [v2, v3, v4, v5, .int .i64 x.f6, .int .i64 x.f7], rfl, ⟨v1, rfl, g1⟩, ⟨[v2], [v3, v4, v5, .int .i64 x.f6, .int .i64 x.f7], rfl, ⟨v2, rfl, g2⟩, ⟨[v3], [v4, v5, .int .i64 x.f6, .int .i64 x.f7], rfl, ⟨v3, rfl, g3⟩, ⟨[v4], [v5, .int .i64 x.f6, .int .i64 x.f7], rfl, ⟨v4, rfl, g4⟩, ⟨[v5], [.int .i64 x.f6, .int .i64 x.f7], rfl, ⟨v5, rfl, g5⟩, ⟨[.int .i64 x.f6], [.int .i64 x.f7], rfl, rfl, rfl⟩⟩⟩⟩⟩⟩⟩
def rd_T57 (xs : List S57) (i : Int) : S57 := xs.getD i.toNat z57
theorem at_T57 {w : World} {A : Option Addr} {n : Nat} {xs : List S57} (h : Kd.C k57 w A n xs) (i : Int) (h0 : 0 ≤ i) (h1 : i < n) : ∃ ad A0 c0 A1 c1 A2 c2 A3 c3 A4 c4 A5 c5, A = some ad ∧ w.cell? (ad.add (i.toNat * 8)) = some (.slice A0 (rd_T57 xs i).f0.length c0) ∧ w.cell? ⟨(ad.add (i.toNat * 8)).block, (ad.add (i.toNat * 8)).off + 1, none⟩ = some (.slice A1 (rd_T57 xs i).f1.length c1) ∧ w.cell? ⟨(ad.add (i.toNat * 8)).block, (ad.add (i.toNat * 8)).off + 2, none⟩ = some (.slice A2 (rd_T57 xs i).f2.length c2) ∧ w.cell? ⟨(ad.add (i.toNat * 8)).block, (ad.add (i.toNat * 8)).off + 3, none⟩ = some (.slice A3 (rd_T57 xs i).f3.length c3) ∧ w.cell? ⟨(ad.add (i.toNat * 8)).block, (ad.add (i.toNat * 8)).off + 4, none⟩ = some (.slice A4 (rd_T57 xs i).f4.length c4) ∧ w.cell? ⟨(ad.add (i.toNat * 8)).block, (ad.add (i.toNat * 8)).off + 5, none⟩ = some (.slice A5 (rd_T57 xs i).f5.length c5) ∧ w.cell? ⟨(ad.add (i.toNat * 8)).block, (ad.add (i.toNat * 8)).off + 6, none⟩ = some (.int .i64 (rd_T57 xs i).f6) ∧ w.cell? ⟨(ad.add (i.toNat * 8)).block, (ad.add (i.toNat * 8)).off + 7, none⟩ = some (.int .i64 (rd_T57 xs i).f7) ∧ (rd_T57 xs i).f0.length ≤ c0 ∧ k50.C w A0 (rd_T57 xs i).f0.length (rd_T57 xs i).f0 ∧ (rd_T57 xs i).f1.length ≤ c1 ∧ k68.C w A1 (rd_T57 xs i).f1.length (rd_T57 xs i).f1 ∧ (rd_T57 xs i).f2.length ≤ c2 ∧ Kd.string.C w A2 (rd_T57 xs i).f2.length (rd_T57 xs i).f2 ∧ (rd_T57 xs i).f3.length ≤ c3 ∧ k62.C w A3 (rd_T57 xs i).f3.length (rd_T57 xs i).f3 ∧ (rd_T57 xs i).f4.length ≤ c4 ∧ k71.C w A4 (rd_T57 xs i).f4.length (rd_T57 xs i).f4 ∧ (rd_T57 xs i).f5.length ≤ c5 ∧ k23.C w A5 (rd_T57 xs i).f5.length (rd_T57 xs i).f5 := by
  obtain ⟨ad, c, e, _, hK, hc0⟩ := Kd.C_get h z57 i h0 h1
  have hc : ∀ j u, c[j]? = some u → w.cell? (ad.add (i.toNat * 8 + j)) = some u := hc0
  obtain ⟨A0, c0, A1, c1, A2, c2, A3, c3, A4, c4, A5, c5, rfl, l0, g0, l1, g1, l2, g2, l3, g3, l4, g4, l5, g5⟩ := k57_open hK
  exact ⟨ad, A0, c0, A1, c1, A2, c2, A3, c3, A4, c4, A5, c5, e, hc 0 _ rfl, by rw [← add_field _ _ 1 (by omega)]; exact hc 1 _ rfl, by rw [← add_field _ _ 2 (by omega)]; exact hc 2 _ rfl, by rw [← add_field _ _ 3 (by omega)]; exact hc 3 _ rfl, by rw [← add_field _ _ 4 (by omega)]; exact hc 4 _ rfl, by rw [← add_field _ _ 5 (by omega)]; exact hc 5 _ rfl, by rw [← add_field _ _ 6 (by omega)]; exact hc 6 _ rfl, by rw [← add_field _ _ 7 (by omega)]; exact hc 7 _ rfl, l0, g0, l1, g1, l2, g2, l3, g3, l4, g4, l5, g5⟩
/-! #### struct type 31 -/
structure S31 where
  f0 : Int
  f1 : Int
  f2 : (List S34)
  f3 : (List S46)
def z31 : S31 := ⟨(0 : Int), (0 : Int), ([] : List S34), ([] : List S46)⟩
def k31 : Kd S31 := Kd.iso (Kd.pair (Kd.int .i64) (Kd.pair (Kd.int .i64) (Kd.pair (Kd.slice 34 k34) (Kd.slice 46 k46)))) (fun x : S31 => (x.f0, x.f1, x.f2, x.f3))
theorem k31_open {w : World} {x : S31} {cs : List Value} (h : k31.K w x cs) : ∃ A2 c2 A3 c3, cs = [.int .i64 x.f0, .int .i64 x.f1, .slice A2 x.f2.length c2, .slice A3 x.f3.length c3] ∧ x.f2.length ≤ c2 ∧ k34.C w A2 x.f2.length x.f2 ∧ x.f3.length ≤ c3 ∧ k46.C w A3 x.f3.length x.f3 := by
  obtain ⟨_, _, rfl, rfl, ⟨_, _, rfl, rfl, ⟨_, _, rfl, ⟨A2, c2, rfl, l2, g2⟩, ⟨A3, c3, rfl, l3, g3⟩⟩⟩⟩ := h
  exact ⟨A2, c2, A3, c3, rfl, l2, g2, l3, g3⟩
theorem k31_openM {w : World} {base : Nat} {ok : Nat → Prop} {x : S31} {cs : List Value} (h : k31.M w base ok x cs) : ∃ v2 v3, cs = [.int .i64 x.f0, .int .i64 x.f1, v2, v3] ∧ k34.R 34 w base ok v2 x.f2 ∧ k46.R 46 w base ok v3 x.f3 := by
  obtain ⟨_, _, rfl, rfl, ⟨_, _, rfl, rfl, ⟨_, _, rfl, ⟨v2, rfl, g2⟩, ⟨v3, rfl, g3⟩⟩⟩⟩ := h
  exact ⟨v2, v3, rfl, g2, g3⟩
theorem k31_mk (w : World) (x : S31) {A2 : Option Addr} {c2 : Nat} (l2 : x.f2.length ≤ c2) (g2 : k34.C w A2 x.f2.length x.f2) {A3 : Option Addr} {c3 : Nat} (l3 : x.f3.length ≤ c3) (g3 : k46.C w A3 x.f3.length x.f3) : k31.K w x [.int .i64 x.f0, .int .i64 x.f1, .slice A2 x.f2.length c2, .slice A3 x.f3.length c3] := ⟨[.int .i64 x.f0], [.int .i64 x.f1, .slice A2 x.f2.length c2, .slice A3 x.f3.length c3], rfl, rfl, ⟨[.int .i64 x.f1], [.slice A2 x.f2.length c2, .slice A3 x.f3.length c3], rfl, rfl, ⟨[.slice A2 x.f2.length c2], [.slice A3 x.f3.length c3], rfl, ⟨A2, c2, rfl, l2, g2⟩, ⟨A3, c3, rfl, l3, g3⟩⟩⟩⟩
theorem k31_mkM (w : World) (base : Nat) (ok : Nat → Prop) (x : S31) {v2 : Value} (g2 : k34.R 34 w base ok v2 x.f2) {v3 : Value} (g3 : k46.R 46 w base ok v3 x.f3) : k31.M w base ok x [.int .i64 x.f0, .int .i64 x.f1, v2, v3] := ⟨[.int .i64 x.f0], [.int .i64 x.f1, v2, v3], rfl, rfl, ⟨[.int .i64 x.f1], [v2, v3], rfl, rfl, ⟨[v2], [v3], rfl, ⟨v2, rfl, g2⟩, ⟨v3, rfl, g3⟩⟩⟩⟩
def rd_T31 (xs : List S31) (i : Int) : S31 := xs.getD i.toNat z31
theorem at_T31 {w : World} {A : Option Addr} {n : Nat} {xs : List S31} (h : Kd.C k31 w A n xs) (i : Int) (h0 : 0 ≤ i) (h1 : i < n) : ∃ ad A2 c2 A3 c3, A = some ad ∧ w.cell? (ad.add (i.toNat * 4)) = some (.int .i64 (rd_T31 xs i).f0) ∧ w.cell? ⟨(ad.add (i.toNat * 4)).block, (ad.add (i.toNat * 4)).off + 1, none⟩ = some (.int .i64 (rd_T31 xs i).f1) ∧ w.cell? ⟨(ad.add (i.toNat * 4)).block, (ad.add (i.toNat * 4)).off + 2, none⟩ = some (.slice A2 (rd_T31 xs i).f2.length c2) ∧ w.cell? ⟨(ad.add (i.toNat * 4)).block, (ad.add (i.toNat * 4)).off + 3, none⟩ = some (.slice A3 (rd_T31 xs i).f3.length c3) ∧ (rd_T31 xs i).f2.length ≤ c2 ∧ k34.C w A2 (rd_T31 xs i).f2.length (rd_T31 xs i).f2 ∧ (rd_T31 xs i).f3.length ≤ c3 ∧ k46.C w A3 (rd_T31 xs i).f3.length (rd_T31 xs i).f3 := by
  obtain ⟨ad, c, e, _, hK, hc0⟩ := Kd.C_get h z31 i h0 h1
  have hc : ∀ j u, c[j]? = some u → w.cell? (ad.add (i.toNat * 4 + j)) = some u := hc0
  obtain ⟨A2, c2, A3, c3, rfl, l2, g2, l3, g3⟩ := k31_open hK
  exact ⟨ad, A2, c2, A3, c3, e, hc 0 _ rfl, by rw [← add_field _ _ 1 (by omega)]; exact hc 1 _ rfl, by rw [← add_field _ _ 2 (by omega)]; exact hc 2 _ rfl, by rw [← add_field _ _ 3 (by omega)]; exact hc 3 _ rfl, l2, g2, l3, g3⟩
/-- Good, of type 23. -/
def G23 (x : S23) : Prop := (Lit.int .i64 x.f0).wf = true ∧ (Lit.int .i64 x.f1).wf = true
/-- How much a value of type 23 holds. -/
def m23 (x : S23) : Nat := (1 + (1)) + 1
theorem open_t23 : OpensB Try.prog 23 k23 m23 G23 := opensB_struct (fun x : S23 => (x.f0, x.f1)) (fun p => ⟨p.1, p.2⟩) (fun _ => rfl) Try.underlying23 (by kernel_rfl) (opensFB_cons (by kernel_rfl) (by kernel_rfl) (opensB_int Try.underlying3) (opensFB_one (by kernel_rfl) (by kernel_rfl) (opensB_int Try.underlying3)))
/-- Good, of type 111. -/
def G111 (x : S111) : Prop := (Lit.int .i64 x.f0).wf = true ∧ (Lit.int .i64 x.f1).wf = true
/-- How much a value of type 111 holds. -/
def m111 (x : S111) : Nat := (1 + (1)) + 1
theorem open_t111 : OpensB Try.prog 111 k111 m111 G111 := opensB_struct (fun x : S111 => (x.f0, x.f1)) (fun p => ⟨p.1, p.2⟩) (fun _ => rfl) Try.underlying111 (by kernel_rfl) (opensFB_cons (by kernel_rfl) (by kernel_rfl) (opensB_int Try.underlying3) (opensFB_one (by kernel_rfl) (by kernel_rfl) (opensB_int Try.underlying3)))
/-- Good, of type 27. -/
def G27 (x : S27) : Prop := (Lit.int .i64 x.f0).wf = true ∧ (Lit.int .i64 x.f1).wf = true ∧ (Lit.int .i64 x.f2).wf = true ∧ (Lit.int .i64 x.f3).wf = true ∧ G23 x.f4 ∧ GAll G23 x.f5 ∧ GAll G111 x.f6
/-- How much a value of type 27 holds. -/
def m27 (x : S27) : Nat := (1 + (1 + (1 + (1 + ((m23 x.f4) + (((mList m23) x.f5) + (((mList m111) x.f6)))))))) + 1
theorem open_t27 : OpensB Try.prog 27 k27 m27 G27 := opensB_struct (fun x : S27 => (x.f0, x.f1, x.f2, x.f3, x.f4, x.f5, x.f6)) (fun p => ⟨p.1, p.2.1, p.2.2.1, p.2.2.2.1, p.2.2.2.2.1, p.2.2.2.2.2.1, p.2.2.2.2.2.2⟩) (fun _ => rfl) Try.underlying27 (by kernel_rfl) (opensFB_cons (by kernel_rfl) (by kernel_rfl) (opensB_int Try.underlying3) (opensFB_cons (by kernel_rfl) (by kernel_rfl) (opensB_int Try.underlying3) (opensFB_cons (by kernel_rfl) (by kernel_rfl) (opensB_int Try.underlying3) (opensFB_cons (by kernel_rfl) (by kernel_rfl) (opensB_int Try.underlying3) (opensFB_cons (by kernel_rfl) (by kernel_rfl) open_t23 (opensFB_cons (by kernel_rfl) (by kernel_rfl) (opensB_slice Try.underlying24 (by kernel_rfl) open_t23) (opensFB_one (by kernel_rfl) (by kernel_rfl) (opensB_slice Try.underlying25 (by kernel_rfl) open_t111))))))))
/-- Good, of type 50. -/
def G50 (x : S50) : Prop := (Lit.int .i64 x.f0).wf = true ∧ (Lit.int .i64 x.f1).wf = true ∧ GAll G23 x.f2 ∧ GAll G27 x.f3
/-- How much a value of type 50 holds. -/
def m50 (x : S50) : Nat := (1 + (1 + (((mList m23) x.f2) + (((mList m27) x.f3))))) + 1
theorem open_t50 : OpensB Try.prog 50 k50 m50 G50 := opensB_struct (fun x : S50 => (x.f0, x.f1, x.f2, x.f3)) (fun p => ⟨p.1, p.2.1, p.2.2.1, p.2.2.2⟩) (fun _ => rfl) Try.underlying50 (by kernel_rfl) (opensFB_cons (by kernel_rfl) (by kernel_rfl) (opensB_int Try.underlying3) (opensFB_cons (by kernel_rfl) (by kernel_rfl) (opensB_int Try.underlying3) (opensFB_cons (by kernel_rfl) (by kernel_rfl) (opensB_slice Try.underlying24 (by kernel_rfl) open_t23) (opensFB_one (by kernel_rfl) (by kernel_rfl) (opensB_slice Try.underlying48 (by kernel_rfl) open_t27)))))
/-- Good, of type 68. -/
def G68 (x : S68) : Prop := (Lit.int .i64 x.f0).wf = true ∧ (Lit.int .i64 x.f1).wf = true
/-- How much a value of type 68 holds. -/
def m68 (x : S68) : Nat := (1 + (1)) + 1
theorem open_t68 : OpensB Try.prog 68 k68 m68 G68 := opensB_struct (fun x : S68 => (x.f0, x.f1)) (fun p => ⟨p.1, p.2⟩) (fun _ => rfl) Try.underlying68 (by kernel_rfl) (opensFB_cons (by kernel_rfl) (by kernel_rfl) (opensB_int Try.underlying3) (opensFB_one (by kernel_rfl) (by kernel_rfl) (opensB_int Try.underlying3)))
/-- Good, of type 62. -/
def G62 (x : S62) : Prop := GAll G27 x.f0 ∧ (Lit.int .i64 x.f1).wf = true ∧ (Lit.int .i64 x.f2).wf = true ∧ G23 x.f3
/-- How much a value of type 62 holds. -/
def m62 (x : S62) : Nat := (((mList m27) x.f0) + (1 + (1 + ((m23 x.f3))))) + 1
theorem open_t62 : OpensB Try.prog 62 k62 m62 G62 := opensB_struct (fun x : S62 => (x.f0, x.f1, x.f2, x.f3)) (fun p => ⟨p.1, p.2.1, p.2.2.1, p.2.2.2⟩) (fun _ => rfl) Try.underlying62 (by kernel_rfl) (opensFB_cons (by kernel_rfl) (by kernel_rfl) (opensB_slice Try.underlying48 (by kernel_rfl) open_t27) (opensFB_cons (by kernel_rfl) (by kernel_rfl) (opensB_int Try.underlying3) (opensFB_cons (by kernel_rfl) (by kernel_rfl) (opensB_int Try.underlying3) (opensFB_one (by kernel_rfl) (by kernel_rfl) open_t23))))
/-- Good, of type 71. -/
def G71 (x : S71) : Prop := (Lit.int .i64 x.f0).wf = true ∧ G23 x.f1
/-- How much a value of type 71 holds. -/
def m71 (x : S71) : Nat := (1 + ((m23 x.f1))) + 1
theorem open_t71 : OpensB Try.prog 71 k71 m71 G71 := opensB_struct (fun x : S71 => (x.f0, x.f1)) (fun p => ⟨p.1, p.2⟩) (fun _ => rfl) Try.underlying71 (by kernel_rfl) (opensFB_cons (by kernel_rfl) (by kernel_rfl) (opensB_int Try.underlying3) (opensFB_one (by kernel_rfl) (by kernel_rfl) open_t23))
/-- Good, of type 57. -/
def G57 (x : S57) : Prop := GAll G50 x.f0 ∧ GAll G68 x.f1 ∧ GAll (fun _ => True) x.f2 ∧ GAll G62 x.f3 ∧ GAll G71 x.f4 ∧ GAll G23 x.f5 ∧ (Lit.int .i64 x.f6).wf = true ∧ (Lit.int .i64 x.f7).wf = true
/-- How much a value of type 57 holds. -/
def m57 (x : S57) : Nat := (((mList m50) x.f0) + (((mList m68) x.f1) + (((mList mStr) x.f2) + (((mList m62) x.f3) + (((mList m71) x.f4) + (((mList m23) x.f5) + (1 + (1)))))))) + 1
theorem open_t57 : OpensB Try.prog 57 k57 m57 G57 := opensB_struct (fun x : S57 => (x.f0, x.f1, x.f2, x.f3, x.f4, x.f5, x.f6, x.f7)) (fun p => ⟨p.1, p.2.1, p.2.2.1, p.2.2.2.1, p.2.2.2.2.1, p.2.2.2.2.2.1, p.2.2.2.2.2.2.1, p.2.2.2.2.2.2.2⟩) (fun _ => rfl) Try.underlying57 (by kernel_rfl) (opensFB_cons (by kernel_rfl) (by kernel_rfl) (opensB_slice Try.underlying40 (by kernel_rfl) open_t50) (opensFB_cons (by kernel_rfl) (by kernel_rfl) (opensB_slice Try.underlying52 (by kernel_rfl) open_t68) (opensFB_cons (by kernel_rfl) (by kernel_rfl) (opensB_slice Try.underlying53 (by kernel_rfl) (opensB_string Try.underlying9)) (opensFB_cons (by kernel_rfl) (by kernel_rfl) (opensB_slice Try.underlying54 (by kernel_rfl) open_t62) (opensFB_cons (by kernel_rfl) (by kernel_rfl) (opensB_slice Try.underlying55 (by kernel_rfl) open_t71) (opensFB_cons (by kernel_rfl) (by kernel_rfl) (opensB_slice Try.underlying24 (by kernel_rfl) open_t23) (opensFB_cons (by kernel_rfl) (by kernel_rfl) (opensB_int Try.underlying3) (opensFB_one (by kernel_rfl) (by kernel_rfl) (opensB_int Try.underlying3)))))))))
/-- Good, of type 34. -/
def G34 (x : S34) : Prop := (Lit.int .i64 x.f0).wf = true ∧ (Lit.int .i64 x.f1).wf = true
/-- How much a value of type 34 holds. -/
def m34 (x : S34) : Nat := (1 + (1)) + 1
theorem open_t34 : OpensB Try.prog 34 k34 m34 G34 := opensB_struct (fun x : S34 => (x.f0, x.f1)) (fun p => ⟨p.1, p.2⟩) (fun _ => rfl) Try.underlying34 (by kernel_rfl) (opensFB_cons (by kernel_rfl) (by kernel_rfl) (opensB_int Try.underlying3) (opensFB_one (by kernel_rfl) (by kernel_rfl) (opensB_int Try.underlying3)))
/-- Good, of type 46. -/
def G46 (x : S46) : Prop := (Lit.int .i64 x.f0).wf = true ∧ (Lit.int .i64 x.f1).wf = true ∧ (Lit.int .i64 x.f2).wf = true ∧ GAll (fun n => (Lit.int .i64 n).wf = true) x.f3
/-- How much a value of type 46 holds. -/
def m46 (x : S46) : Nat := (1 + (1 + (1 + (((mList mOne) x.f3))))) + 1
theorem open_t46 : OpensB Try.prog 46 k46 m46 G46 := opensB_struct (fun x : S46 => (x.f0, x.f1, x.f2, x.f3)) (fun p => ⟨p.1, p.2.1, p.2.2.1, p.2.2.2⟩) (fun _ => rfl) Try.underlying46 (by kernel_rfl) (opensFB_cons (by kernel_rfl) (by kernel_rfl) (opensB_int Try.underlying3) (opensFB_cons (by kernel_rfl) (by kernel_rfl) (opensB_int Try.underlying3) (opensFB_cons (by kernel_rfl) (by kernel_rfl) (opensB_int Try.underlying3) (opensFB_one (by kernel_rfl) (by kernel_rfl) (opensB_slice Try.underlying44 (by kernel_rfl) (opensB_int Try.underlying3))))))
/-- Good, of type 31. -/
def G31 (x : S31) : Prop := (Lit.int .i64 x.f0).wf = true ∧ (Lit.int .i64 x.f1).wf = true ∧ GAll G34 x.f2 ∧ GAll G46 x.f3
/-- How much a value of type 31 holds. -/
def m31 (x : S31) : Nat := (1 + (1 + (((mList m34) x.f2) + (((mList m46) x.f3))))) + 1
theorem open_t31 : OpensB Try.prog 31 k31 m31 G31 := opensB_struct (fun x : S31 => (x.f0, x.f1, x.f2, x.f3)) (fun p => ⟨p.1, p.2.1, p.2.2.1, p.2.2.2⟩) (fun _ => rfl) Try.underlying31 (by kernel_rfl) (opensFB_cons (by kernel_rfl) (by kernel_rfl) (opensB_int Try.underlying3) (opensFB_cons (by kernel_rfl) (by kernel_rfl) (opensB_int Try.underlying3) (opensFB_cons (by kernel_rfl) (by kernel_rfl) (opensB_slice Try.underlying28 (by kernel_rfl) open_t34) (opensFB_one (by kernel_rfl) (by kernel_rfl) (opensB_slice Try.underlying29 (by kernel_rfl) open_t46)))))
/-- THE STATEMENT. -/
def LeaveOut.Pure : Prop := ∀ (x0 : S57) (x1 : Int) (x2 : S31) (x3 : (List S23)), G57 x0 → (Lit.int .i64 x1).wf = true → G31 x2 → GAll G23 x3 → (m57 x0) + 1 + (m31 x2) + ((mList m23) x3) ≤ 1048576 →  ∃ k, backstitchkeep3_LeaveOut.f k x0.f0 x0.f1 x0.f2 x0.f3 x0.f4 x0.f5 x0.f6 x0.f7 x1 x2.f0 x2.f1 x2.f2 x2.f3 x3 = some true
end Go.Proofs.Ytchcbncelckgeaa.LeaveOutS
