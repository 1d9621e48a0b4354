/- The one pure statement of LeaveMakes: what is left of it without Go and memory. -/
import Derived.Test.YtchcbncelckgeaaOpenB
import Derived.Test.YtchcbncelckgeaaPM17
set_option linter.unusedVariables false
namespace Go.Proofs.Ytchcbncelckgeaa.LeaveMakesS
open Go.RowKit Go.Proofs.YtchcbncelckgeaaW.PrintWords Go.Proofs.Ytchcbncelckgeaa.OpnB Go.Proofs.Ytchcbncelckgeaa.PM
/-! #### struct type 31 -/
structure S31 where
  f0 : Int
  f1 : Int
  f2 : (List S34)
  f3 : (List S46)
def z31 : S31 := ⟨(0 : Int), (0 : Int), ([] : List S34), ([] : List S46)⟩
def k31 : Kd S31 := Kd.iso (Kd.pair (Kd.int .i64) (Kd.pair (Kd.int .i64) (Kd.pair (Kd.slice 34 k34) (Kd.slice 46 k46)))) (fun x : S31 => (x.f0, x.f1, x.f2, x.f3))
theorem k31_open {w : World} {x : S31} {cs : List Value} (h : k31.K w x cs) : ∃ A2 c2 A3 c3, cs = [.int .i64 x.f0, .int .i64 x.f1, .slice A2 x.f2.length c2, .slice A3 x.f3.length c3] ∧ x.f2.length ≤ c2 ∧ k34.C w A2 x.f2.length x.f2 ∧ x.f3.length ≤ c3 ∧ k46.C w A3 x.f3.length x.f3 := by
  obtain ⟨_, _, rfl, rfl, ⟨_, _, rfl, rfl, ⟨_, _, rfl, ⟨A2, c2, rfl, l2, g2⟩, ⟨A3, c3, rfl, l3, g3⟩⟩⟩⟩ := h
  exact ⟨A2, c2, A3, c3, rfl, l2, g2, l3, g3⟩
theorem k31_openM {w : World} {base : Nat} {ok : Nat → Prop} {x : S31} {cs : List Value} (h : k31.M w base ok x cs) : ∃ v2 v3, cs = [.int .i64 x.f0, .int .i64 x.f1, v2, v3] ∧ k34.R 34 w base ok v2 x.f2 ∧ k46.R 46 w base ok v3 x.f3 := by
  obtain ⟨_, _, rfl, rfl, ⟨_, _, rfl, rfl, ⟨_, _, rfl, ⟨v2, rfl, g2⟩, ⟨v3, rfl, g3⟩⟩⟩⟩ := h
  exact ⟨v2, v3, rfl, g2, g3⟩
theorem k31_mk (w : World) (x : S31) {A2 : Option Addr} {c2 : Nat} (l2 : x.f2.length ≤ c2) (g2 : k34.C w A2 x.f2.length x.f2) {A3 : Option Addr} {c3 : Nat} (l3 : x.f3.length ≤ c3) (g3 : k46.C w A3 x.f3.length x.f3) : k31.K w x [.int .i64 x.f0, .int .i64 x.f1, .slice A2 x.f2.length c2, .slice A3 x.f3.length c3] := ⟨[.int .i64 x.f0], [.int .i64 x.f1, .slice A2 x.f2.length c2, .slice A3 x.f3.length c3], rfl, rfl, ⟨[.int .i64 x.f1], [.slice A2 x.f2.length c2, .slice A3 x.f3.length c3], rfl, rfl, ⟨[.slice A2 x.f2.length c2], [.slice A3 x.f3.length c3], rfl, ⟨A2, c2, rfl, l2, g2⟩, ⟨A3, c3, rfl, l3, g3⟩⟩⟩⟩
theorem k31_mkM (w : World) (base : Nat) (ok : Nat → Prop) (x : S31) {v2 : Value} (g2 : k34.R 34 w base ok v2 x.f2) {v3 : Value} (g3 : k46.R 46 w base ok v3 x.f3) : k31.M w base ok x [.int .i64 x.f0, .int .i64 x.f1, v2, v3] := ⟨[.int .i64 x.f0], [.int .i64 x.f1, v2, v3], rfl, rfl, ⟨[.int .i64 x.f1], [v2, v3], rfl, rfl, ⟨[v2], [v3], rfl, ⟨v2, rfl, g2⟩, ⟨v3, rfl, g3⟩⟩⟩⟩
def rd_T31 (xs : List S31) (i : Int) : S31 := xs.getD i.toNat z31
theorem at_T31 {w : World} {A : Option Addr} {n : Nat} {xs : List S31} (h : Kd.C k31 w A n xs) (i : Int) (h0 : 0 ≤ i) (h1 : i < n) : ∃ ad A2 c2 A3 c3, A = some ad ∧ w.cell? (ad.add (i.toNat * 4)) = some (.int .i64 (rd_T31 xs i).f0) ∧ w.cell? ⟨(ad.add (i.toNat * 4)).block, (ad.add (i.toNat * 4)).off + 1, none⟩ = some (.int .i64 (rd_T31 xs i).f1) ∧ w.cell? ⟨(ad.add (i.toNat * 4)).block, (ad.add (i.toNat * 4)).off + 2, none⟩ = some (.slice A2 (rd_T31 xs i).f2.length c2) ∧ w.cell? ⟨(ad.add (i.toNat * 4)).block, (ad.add (i.toNat * 4)).off + 3, none⟩ = some (.slice A3 (rd_T31 xs i).f3.length c3) ∧ (rd_T31 xs i).f2.length ≤ c2 ∧ k34.C w A2 (rd_T31 xs i).f2.length (rd_T31 xs i).f2 ∧ (rd_T31 xs i).f3.length ≤ c3 ∧ k46.C w A3 (rd_T31 xs i).f3.length (rd_T31 xs i).f3 := by
  obtain ⟨ad, c, e, _, hK, hc0⟩ := Kd.C_get h z31 i h0 h1
  have hc : ∀ j u, c[j]? = some u → w.cell? (ad.add (i.toNat * 4 + j)) = some u := hc0
  obtain ⟨A2, c2, A3, c3, rfl, l2, g2, l3, g3⟩ := k31_open hK
  exact ⟨ad, A2, c2, A3, c3, e, hc 0 _ rfl, by rw [← add_field _ _ 1 (by omega)]; exact hc 1 _ rfl, by rw [← add_field _ _ 2 (by omega)]; exact hc 2 _ rfl, by rw [← add_field _ _ 3 (by omega)]; exact hc 3 _ rfl, l2, g2, l3, g3⟩
/-- Good, of type 23. -/
def G23 (x : S23) : Prop := (Lit.int .i64 x.f0).wf = true ∧ (Lit.int .i64 x.f1).wf = true
/-- How much a value of type 23 holds. -/
def m23 (x : S23) : Nat := (1 + (1)) + 1
theorem open_t23 : OpensB Try.prog 23 k23 m23 G23 := opensB_struct (fun x : S23 => (x.f0, x.f1)) (fun p => ⟨p.1, p.2⟩) (fun _ => rfl) Try.underlying23 (by kernel_rfl) (opensFB_cons (by kernel_rfl) (by kernel_rfl) (opensB_int Try.underlying3) (opensFB_one (by kernel_rfl) (by kernel_rfl) (opensB_int Try.underlying3)))
/-- Good, of type 111. -/
def G111 (x : S111) : Prop := (Lit.int .i64 x.f0).wf = true ∧ (Lit.int .i64 x.f1).wf = true
/-- How much a value of type 111 holds. -/
def m111 (x : S111) : Nat := (1 + (1)) + 1
theorem open_t111 : OpensB Try.prog 111 k111 m111 G111 := opensB_struct (fun x : S111 => (x.f0, x.f1)) (fun p => ⟨p.1, p.2⟩) (fun _ => rfl) Try.underlying111 (by kernel_rfl) (opensFB_cons (by kernel_rfl) (by kernel_rfl) (opensB_int Try.underlying3) (opensFB_one (by kernel_rfl) (by kernel_rfl) (opensB_int Try.underlying3)))
/-- Good, of type 27. -/
def G27 (x : S27) : Prop := (Lit.int .i64 x.f0).wf = true ∧ (Lit.int .i64 x.f1).wf = true ∧ (Lit.int .i64 x.f2).wf = true ∧ (Lit.int .i64 x.f3).wf = true ∧ G23 x.f4 ∧ GAll G23 x.f5 ∧ GAll G111 x.f6
/-- How much a value of type 27 holds. -/
def m27 (x : S27) : Nat := (1 + (1 + (1 + (1 + ((m23 x.f4) + (((mList m23) x.f5) + (((mList m111) x.f6)))))))) + 1
theorem open_t27 : OpensB Try.prog 27 k27 m27 G27 := opensB_struct (fun x : S27 => (x.f0, x.f1, x.f2, x.f3, x.f4, x.f5, x.f6)) (fun p => ⟨p.1, p.2.1, p.2.2.1, p.2.2.2.1, p.2.2.2.2.1, p.2.2.2.2.2.1, p.2.2.2.2.2.2⟩) (fun _ => rfl) Try.underlying27 (by kernel_rfl) (opensFB_cons (by kernel_rfl) (by kernel_rfl) (opensB_int Try.underlying3) (opensFB_cons (by kernel_rfl) (by kernel_rfl) (opensB_int Try.underlying3) (opensFB_cons (by kernel_rfl) (by kernel_rfl) (opensB_int Try.underlying3) (opensFB_cons (by kernel_rfl) (by kernel_rfl) (opensB_int Try.underlying3) (opensFB_cons (by kernel_rfl) (by kernel_rfl) open_t23 (opensFB_cons (by kernel_rfl) (by kernel_rfl) (opensB_slice Try.underlying24 (by kernel_rfl) open_t23) (opensFB_one (by kernel_rfl) (by kernel_rfl) (opensB_slice Try.underlying25 (by kernel_rfl) open_t111))))))))
/-- Good, of type 50. -/
def G50 (x : S50) : Prop := (Lit.int .i64 x.f0).wf = true ∧ (Lit.int .i64 x.f1).wf = true ∧ GAll G23 x.f2 ∧ GAll G27 x.f3
/-- How much a value of type 50 holds. -/
def m50 (x : S50) : Nat := (1 + (1 + (((mList m23) x.f2) + (((mList m27) x.f3))))) + 1
theorem open_t50 : OpensB Try.prog 50 k50 m50 G50 := opensB_struct (fun x : S50 => (x.f0, x.f1, x.f2, x.f3)) (fun p => ⟨p.1, p.2.1, p.2.2.1, p.2.2.2⟩) (fun _ => rfl) Try.underlying50 (by kernel_rfl) (opensFB_cons (by kernel_rfl) (by kernel_rfl) (opensB_int Try.underlying3) (opensFB_cons (by kernel_rfl) (by kernel_rfl) (opensB_int Try.underlying3) (opensFB_cons (by kernel_rfl) (by kernel_rfl) (opensB_slice Try.underlying24 (by kernel_rfl) open_t23) (opensFB_one (by kernel_rfl) (by kernel_rfl) (opensB_slice Try.underlying48 (by kernel_rfl) open_t27)))))
/-- Good, of type 34. -/
def G34 (x : S34) : Prop := (Lit.int .i64 x.f0).wf = true ∧ (Lit.int .i64 x.f1).wf = true
/-- How much a value of type 34 holds. -/
def m34 (x : S34) : Nat := (1 + (1)) + 1
theorem open_t34 : OpensB Try.prog 34 k34 m34 G34 := opensB_struct (fun x : S34 => (x.f0, x.f1)) (fun p => ⟨p.1, p.2⟩) (fun _ => rfl) Try.underlying34 (by kernel_rfl) (opensFB_cons (by kernel_rfl) (by kernel_rfl) (opensB_int Try.underlying3) (opensFB_one (by kernel_rfl) (by kernel_rfl) (opensB_int Try.underlying3)))
/-- Good, of type 46. -/
def G46 (x : S46) : Prop := (Lit.int .i64 x.f0).wf = true ∧ (Lit.int .i64 x.f1).wf = true ∧ (Lit.int .i64 x.f2).wf = true ∧ GAll (fun n => (Lit.int .i64 n).wf = true) x.f3
/-- How much a value of type 46 holds. -/
def m46 (x : S46) : Nat := (1 + (1 + (1 + (((mList mOne) x.f3))))) + 1
theorem open_t46 : OpensB Try.prog 46 k46 m46 G46 := opensB_struct (fun x : S46 => (x.f0, x.f1, x.f2, x.f3)) (fun p => ⟨p.1, p.2.1, p.2.2.1, p.2.2.2⟩) (fun _ => rfl) Try.underlying46 (by kernel_rfl) (opensFB_cons (by kernel_rfl) (by kernel_rfl) (opensB_int Try.underlying3) (opensFB_cons (by kernel_rfl) (by kernel_rfl) (opensB_int Try.underlying3) (opensFB_cons (by kernel_rfl) (by kernel_rfl) (opensB_int Try.underlying3) (opensFB_one (by kernel_rfl) (by kernel_rfl) (opensB_slice Try.underlying44 (by kernel_rfl) (opensB_int Try.underlying3))))))
/-- Good, of type 31. -/
def G31 (x : S31) : Prop := (Lit.int .i64 x.f0).wf = true ∧ (Lit.int .i64 x.f1).wf = true ∧ GAll G34 x.f2 ∧ GAll G46 x.f3
/-- How much a value of type 31 holds. -/
def m31 (x : S31) : Nat := (1 + (1 + (((mList m34) x.f2) + (((mList m46) x.f3))))) + 1
theorem open_t31 : OpensB Try.prog 31 k31 m31 G31 := opensB_struct (fun x : S31 => (x.f0, x.f1, x.f2, x.f3)) (fun p => ⟨p.1, p.2.1, p.2.2.1, p.2.2.2⟩) (fun _ => rfl) Try.underlying31 (by kernel_rfl) (opensFB_cons (by kernel_rfl) (by kernel_rfl) (opensB_int Try.underlying3) (opensFB_cons (by kernel_rfl) (by kernel_rfl) (opensB_int Try.underlying3) (opensFB_cons (by kernel_rfl) (by kernel_rfl) (opensB_slice Try.underlying28 (by kernel_rfl) open_t34) (opensFB_one (by kernel_rfl) (by kernel_rfl) (opensB_slice Try.underlying29 (by kernel_rfl) open_t46)))))
/-- THE STATEMENT. -/
def LeaveMakes.Pure : Prop := ∀ (x0 : (List S50)) (x1 : S31) (x2 : (List S23)), GAll G50 x0 → G31 x1 → GAll G23 x2 → ((mList m50) x0) + (m31 x1) + ((mList m23) x2) ≤ 1048576 →  ∃ k, backstitchkeep3_LeaveMakes.f k x0 x1.f0 x1.f1 x1.f2 x1.f3 x2 = some true
end Go.Proofs.Ytchcbncelckgeaa.LeaveMakesS
