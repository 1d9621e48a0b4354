/- The law EndsStay over the printed functions: plain lists, no program. -/
import Derived.Test.YtnimidkeoocchaaEndsLw
import Derived.Test.YtnimidkeoocchaaPE14
import Derived.Test.YtnimidkeoocchaaStmEndsStay
set_option linter.unusedVariables false
set_option linter.unusedSimpArgs false
namespace Go.Proofs.Ytnimidkeoocchaa.End
open Go.RowKit Go.Proofs.YtnimidkeoocchaaW.PrintWords Go.Proofs.Ytnimidkeoocchaa.Opn Go.Proofs.Ytnimidkeoocchaa.PE Go.Proofs.Ytnimidkeoocchaa.Rch Go.Proofs.Ytnimidkeoocchaa.Chk

theorem stay_l0 (nd st : List Int) (hn : nd.length ≤ 1000) (hs : st.length ≤ 1000) (h : ∀ x ∈ st, x ∈ nd) : ∀ (d i k : Nat), st.length - i = d → i ≤ st.length → d + nd.length + 20 ≤ k → backstitchkeep3_EndsStay.l0 k [] [] nd 0 st (st.length : Int) (i : Int) = some true := by
  intro d
  induction d with
  | zero =>
    intro i k hd hi hk
    obtain ⟨k, rfl⟩ : ∃ q, k = q + 1 := ⟨k - 1, by omega⟩
    simp only [backstitchkeep3_EndsStay.l0]
    rw [if_neg (by omega), ended_f k (by omega)]
    simp only [Option.bind_some, if_true]
    have e0 : wrap64 ((([] : List Int).length : Int) + (([] : List Int).length : Int)) = 0 := by unfold wrap64; simp
    rw [e0]; rfl
  | succ d ih =>
    intro i k hd hi hk
    obtain ⟨k, rfl⟩ : ∃ q, k = q + 1 := ⟨k - 1, by omega⟩
    have hlt : i < st.length := by omega
    have next := ih (i + 1) k (by omega) (by omega) (by omega)
    rw [show ((i + 1 : Nat) : Int) = (i : Int) + 1 from by omega, ← wrap_up (i : Int) (by omega) (by omega)] at next
    simp only [backstitchkeep3_EndsStay.l0]
    rw [if_pos (by omega), if_pos (by omega), if_pos (by omega), rdI st i hlt, has_f nd _ (by omega) k (by omega)]
    simp only [Option.bind_some]
    rw [if_pos (by simpa using h _ (List.getElem_mem hlt))]
    exact next
theorem endsStay : EndsStayS.EndsStay.Pure := by
  rintro ⟨has, roots⟩ l ⟨hG1, hG2⟩ hL
  refine ⟨checkK has (roots ++ dueL has roots l) + 2000, ?_⟩
  generalize hK : checkK has (roots ++ dueL has roots l) + 2000 = K
  show backstitchkeep3_EndsStay.f K has roots l = some true
  have hr := hG2.1
  unfold backstitchkeep3_EndsStay.f
  rw [ended_f K (by omega)]
  simp only [Option.bind_some, if_true]
  unfold ends_Due.f
  simp only [Option.bind_some]
  by_cases hE : dueE has roots l = 0
  · rw [if_pos hE, copy_int roots hr]
    obtain ⟨hck, hl100, hin⟩ := dueE_ok hE
    obtain ⟨hz1, hz2, hz3, hri, hhi⟩ := check_ok hck
    have hDl := due_len has roots l
    have hDR : dueR has roots l = dueL has roots l := by unfold dueR; rw [if_pos hE]
    rw [hDR]
    simp only [Option.bind_some]
    rw [if_pos (by omega), need_f has _ K (by omega)]
    simp only [Option.bind_some]
    by_cases hF : dueE has (roots ++ dueL has roots l) (dueL has roots l) = 0
    · rw [if_pos hF]
      obtain ⟨fck, _, fin⟩ := dueE_ok hF
      have hrin : InR has.length (roots ++ dueL has roots l) := (check_ok fck).2.2.2.1
      have hnone : dueR has (roots ++ dueL has roots l) (dueL has roots l) = [] := by
        unfold dueR
        rw [if_pos hF]
        refine List.eq_nil_iff_forall_not_mem.2 (fun x hx => ?_)
        obtain ⟨h1, h2⟩ := due_mem.1 hx
        have hxr := fin x h1
        have := (mem_from fck hrin hxr).2 (.root (List.mem_append_right _ h1))
        unfold ndB at h2
        rw [this] at h2; cases h2
      have hmore : stayR has (roots ++ dueL has roots l) (dueL has roots l) = [] := by
        unfold stayR
        rw [if_pos hF]
        refine List.eq_nil_iff_forall_not_mem.2 (fun x hx => ?_)
        obtain ⟨h1, h2, _⟩ := mem_stay.1 hx
        have e : dueL has (roots ++ dueL has roots l) (dueL has roots l) = [] := by unfold dueR at hnone; rwa [if_pos hF] at hnone
        rw [e] at h2
        exact lf_nil ((mem_from fck (fun x hx => by simp at hx) h1).1 h2)
      rw [hnone, hmore, fck]
      have hnl : (needE has (roots ++ dueL has roots l)).length ≤ 1000 := by
        unfold needE
        rw [if_pos fck]
        have := rise_length (fromL has (roots ++ dueL has roots l))
        rw [fromL_length] at this
        omega
      have hsl := stayR_len has roots l
      refine stay_l0 _ _ hnl (by omega) (fun x hx => ?_) _ 0 K rfl (by omega) ?_
      · unfold stayR at hx
        rw [if_pos hE] at hx
        obtain ⟨h1, h2, _⟩ := mem_stay.1 hx
        unfold needE
        rw [if_pos fck, mem_rise, fromL_length]
        refine ⟨h1, (mem_from fck hrin h1).2 ?_⟩
        exact ((mem_from hck (fun x hx => hin x (due_mem.1 hx).1) h1).1 h2).mono (fun n hn => List.mem_append_right _ hn)
      · omega
    · rw [if_neg hF]
  · rw [if_neg hE]
end Go.Proofs.Ytnimidkeoocchaa.End
