/- A bundle of texts: HoM47, OrN. -/
import Derived.Test.YtpkepgcmifdpfaaGreatDoorR33
import Derived.Test.YtpkepgcmifdpfaaGreatDoorR04
import Derived.Test.YtpkepgcmifdpfaaGreatDoorR25
section
namespace Go.Proofs.YtpkepgcmifdpfaaGreatDoor
open Go
namespace M
section
variable {ps : List P5} {l : List Mv}
theorem grps_mem (hok : mvsOk l) {i : Nat} (hi : i < (grps ps l).length) {st : Int} : st ∈ (grps ps l)[i] ↔ ∃ h : i < (Dg.ord (rows ps l)).length, ∃ x, x < l.length ∧ Dg.Same (rows ps l) (Dg.ord (rows ps l))[i] x ∧ st = stv l x := by
  have hR := rows_ok (ps := ps) hok.1
  have hio : i < (Dg.ord (rows ps l)).length := by unfold grps at hi; simpa using hi
  have hv := (Dg.mem_leads.1 ((Dg.ord_mem hR).1 (List.getElem_mem hio))).1
  have e : (grps ps l)[i] = sts l (Dg.scc (rows ps l) (Dg.ord (rows ps l))[i]) := by simp [grps]
  rw [e, sts_eq, List.mem_map]
  clear e
  constructor
  · rintro ⟨x, hx, rfl⟩
    have hs := (Dg.scc_bit hR hv x).1 ((Bs.mem_els (Dg.scc_fit hR _)).1 hx)
    have hxl := hs.1.lt hR hv
    rw [rows_len] at hxl
    exact ⟨hio, x, hxl, hs, rfl⟩
  · rintro ⟨_, x, _, hs, rfl⟩
    exact ⟨x, (Bs.mem_els (Dg.scc_fit hR _)).2 ((Dg.scc_bit hR hv x).2 hs), rfl⟩
theorem grps_len_eq (ps : List P5) (l : List Mv) : (grps ps l).length = (Dg.ord (rows ps l)).length := by unfold grps; rw [List.length_map]
end
end M
end Go.Proofs.YtpkepgcmifdpfaaGreatDoor
end

section
namespace Go.Proofs.YtpkepgcmifdpfaaGreatDoor
open Go
namespace M
section
variable {ps : List P5} {l : List Mv}
theorem grps_len_le (hok : mvsOk l) : (grps ps l).length ≤ l.length := by
  have hR := rows_ok (ps := ps) hok.1
  rw [grps_len_eq, (Dg.ord_perm hR).length_eq]
  unfold Dg.leads
  have := List.length_filter_le (Dg.lead (rows ps l)) (List.range (rows ps l).length)
  rw [List.length_range] at this
  have h2 := rows_len ps l
  omega
theorem stv_ok (hok : mvsOk l) {x : Nat} (hx : x < l.length) : 0 ≤ stv l x ∧ stv l x ≤ 511 := by
  rw [← stv_at hx]
  exact mvOk_st (hok.2.1 _ (List.getElem_mem hx))
theorem grps_own (hok : mvsOk l) {g : List Int} (hg : g ∈ grps ps l) : g.length ≤ 512 ∧ ∀ st ∈ g, ∃ x, x < l.length ∧ st = stv l x := by
  obtain ⟨i, hi, rfl⟩ := List.getElem_of_mem hg
  constructor
  · have e : (grps ps l)[i]'hi = sts l (Dg.scc (rows ps l) ((Dg.ord (rows ps l))[i]'(by rw [grps_len_eq] at hi; exact hi))) := by simp [grps]
    rw [e]
    unfold sts
    rw [List.length_map]
    exact Bs.els_len _ _
  · intro st hst
    obtain ⟨-, x, hx, -, e⟩ := (grps_mem hok hi).1 hst
    exact ⟨x, hx, e⟩
theorem grps_small (hok : mvsOk l) {g : List Int} (hg : g ∈ grps ps l) : g.length ≤ 512 ∧ ∀ st ∈ g, 0 ≤ st ∧ st ≤ 511 := by
  obtain ⟨h1, h2⟩ := grps_own hok hg
  refine ⟨h1, fun st hst => ?_⟩
  obtain ⟨x, hx, rfl⟩ := h2 st hst
  exact stv_ok hok hx
theorem in_grp (hok : mvsOk l) {x : Nat} (hx : x < l.length) : ∃ i, ∃ h : i < (grps ps l).length, stv l x ∈ (grps ps l)[i] := by
  have hR := rows_ok (ps := ps) hok.1
  obtain ⟨u, hu, hs, -⟩ := Dg.has_lead hR (v := x) (by rw [rows_len]; exact hx)
  obtain ⟨i, hi, e⟩ := List.getElem_of_mem ((Dg.ord_mem hR).2 hu)
  have hi2 : i < (grps ps l).length := by rw [grps_len_eq]; exact hi
  refine ⟨i, hi2, (grps_mem hok hi2).2 ⟨hi, x, hx, ?_, rfl⟩⟩
  rw [e]
  exact hs
theorem mem_edg (hok : mvsOk l) {e : Int × Int} : e ∈ edg ps l ↔ ∃ x y, x < l.length ∧ y < l.length ∧ (Dg.row (rows ps l) x).testBit y = true ∧ e = (stv l x, stv l y) := by
  have hR := rows_ok (ps := ps) hok.1
  unfold edg edgT
  rw [List.mem_flatMap]
  constructor
  · rintro ⟨x, hx, h⟩
    obtain ⟨y, hy, rfl⟩ := List.mem_map.1 h
    have hb := (Bs.mem_els (hR.row_fit x)).1 hy
    have hyl := hR.fit _ _ hb
    rw [rows_len] at hyl
    exact ⟨x, y, List.mem_range.1 hx, hyl, hb, rfl⟩
  · rintro ⟨x, y, hx, hy, hb, rfl⟩
    exact ⟨x, List.mem_range.2 hx, List.mem_map.2 ⟨y, (Bs.mem_els (hR.row_fit x)).2 hb, rfl⟩⟩
theorem edg_len (hok : mvsOk l) : (edg ps l).length ≤ 262144 := by
  have h1 := edgT_len ps l l.length
  have h2 := hok.1
  unfold edg
  omega
theorem edg_ok (hok : mvsOk l) {e : Int × Int} (he : e ∈ edg ps l) : (0 ≤ e.1 ∧ e.1 ≤ 511) ∧ (0 ≤ e.2 ∧ e.2 ≤ 511) ∧ 0 < (grps ps l).length := by
  obtain ⟨x, y, hx, hy, -, rfl⟩ := (mem_edg hok).1 he
  obtain ⟨i, hi, -⟩ := in_grp (ps := ps) hok hx
  exact ⟨stv_ok hok hx, stv_ok hok hy, by omega⟩
end
end M
end Go.Proofs.YtpkepgcmifdpfaaGreatDoor
end
