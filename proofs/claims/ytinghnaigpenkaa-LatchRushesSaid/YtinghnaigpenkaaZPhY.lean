/- The starter's walk through the group's Wait, in whatever company of workers. -/
import Derived.Test.YtinghnaigpenkaaZPhX
import Derived.Conc.WgGenN3
import Derived.Conc.Company
namespace Go.Proofs.Ytinghnaigpenkaa
open Go.Conc Go.RowKit Go.Conc.Lib Go.ConcR.Gen
open Go.ConcN (st_flag st_waiters)
open Go.ConcN.Gen (WgLive.cell0 WgLive.cell1)
open Go.ConcR (KK wgBlock WgAt stA smA rd wr mk Payload)
set_option linter.unusedVariables false
set_option linter.unusedSimpArgs false
set_option linter.unusedSectionVars false
set_option maxHeartbeats 4000000
variable [Payload] {L : WgLink}


































theorem arr84 (T : Array Value) (h : T.size = 84) : ∃ v0 v1 v2 v3 v4 v5 v6 v7 v8 v9 v10 v11 v12 v13 v14 v15 v16 v17 v18 v19 v20 v21 v22 v23 v24 v25 v26 v27 v28 v29 v30 v31 v32 v33 v34 v35 v36 v37 v38 v39 v40 v41 v42 v43 v44 v45 v46 v47 v48 v49 v50 v51 v52 v53 v54 v55 v56 v57 v58 v59 v60 v61 v62 v63 v64 v65 v66 v67 v68 v69 v70 v71 v72 v73 v74 v75 v76 v77 v78 v79 v80 v81 v82 v83 : Value, T = #[v0, v1, v2, v3, v4, v5, v6, v7, v8, v9, v10, v11, v12, v13, v14, v15, v16, v17, v18, v19, v20, v21, v22, v23, v24, v25, v26, v27, v28, v29, v30, v31, v32, v33, v34, v35, v36, v37, v38, v39, v40, v41, v42, v43, v44, v45, v46, v47, v48, v49, v50, v51, v52, v53, v54, v55, v56, v57, v58, v59, v60, v61, v62, v63, v64, v65, v66, v67, v68, v69, v70, v71, v72, v73, v74, v75, v76, v77, v78, v79, v80, v81, v82, v83] := by
  obtain ⟨l⟩ := T
  simp only [List.size_toArray] at h
  rcases l with _ | ⟨v0, l⟩
  · simp at h
  rcases l with _ | ⟨v1, l⟩
  · simp at h
  rcases l with _ | ⟨v2, l⟩
  · simp at h
  rcases l with _ | ⟨v3, l⟩
  · simp at h
  rcases l with _ | ⟨v4, l⟩
  · simp at h
  rcases l with _ | ⟨v5, l⟩
  · simp at h
  rcases l with _ | ⟨v6, l⟩
  · simp at h
  rcases l with _ | ⟨v7, l⟩
  · simp at h
  rcases l with _ | ⟨v8, l⟩
  · simp at h
  rcases l with _ | ⟨v9, l⟩
  · simp at h
  rcases l with _ | ⟨v10, l⟩
  · simp at h
  rcases l with _ | ⟨v11, l⟩
  · simp at h
  rcases l with _ | ⟨v12, l⟩
  · simp at h
  rcases l with _ | ⟨v13, l⟩
  · simp at h
  rcases l with _ | ⟨v14, l⟩
  · simp at h
  rcases l with _ | ⟨v15, l⟩
  · simp at h
  rcases l with _ | ⟨v16, l⟩
  · simp at h
  rcases l with _ | ⟨v17, l⟩
  · simp at h
  rcases l with _ | ⟨v18, l⟩
  · simp at h
  rcases l with _ | ⟨v19, l⟩
  · simp at h
  rcases l with _ | ⟨v20, l⟩
  · simp at h
  rcases l with _ | ⟨v21, l⟩
  · simp at h
  rcases l with _ | ⟨v22, l⟩
  · simp at h
  rcases l with _ | ⟨v23, l⟩
  · simp at h
  rcases l with _ | ⟨v24, l⟩
  · simp at h
  rcases l with _ | ⟨v25, l⟩
  · simp at h
  rcases l with _ | ⟨v26, l⟩
  · simp at h
  rcases l with _ | ⟨v27, l⟩
  · simp at h
  rcases l with _ | ⟨v28, l⟩
  · simp at h
  rcases l with _ | ⟨v29, l⟩
  · simp at h
  rcases l with _ | ⟨v30, l⟩
  · simp at h
  rcases l with _ | ⟨v31, l⟩
  · simp at h
  rcases l with _ | ⟨v32, l⟩
  · simp at h
  rcases l with _ | ⟨v33, l⟩
  · simp at h
  rcases l with _ | ⟨v34, l⟩
  · simp at h
  rcases l with _ | ⟨v35, l⟩
  · simp at h
  rcases l with _ | ⟨v36, l⟩
  · simp at h
  rcases l with _ | ⟨v37, l⟩
  · simp at h
  rcases l with _ | ⟨v38, l⟩
  · simp at h
  rcases l with _ | ⟨v39, l⟩
  · simp at h
  rcases l with _ | ⟨v40, l⟩
  · simp at h
  rcases l with _ | ⟨v41, l⟩
  · simp at h
  rcases l with _ | ⟨v42, l⟩
  · simp at h
  rcases l with _ | ⟨v43, l⟩
  · simp at h
  rcases l with _ | ⟨v44, l⟩
  · simp at h
  rcases l with _ | ⟨v45, l⟩
  · simp at h
  rcases l with _ | ⟨v46, l⟩
  · simp at h
  rcases l with _ | ⟨v47, l⟩
  · simp at h
  rcases l with _ | ⟨v48, l⟩
  · simp at h
  rcases l with _ | ⟨v49, l⟩
  · simp at h
  rcases l with _ | ⟨v50, l⟩
  · simp at h
  rcases l with _ | ⟨v51, l⟩
  · simp at h
  rcases l with _ | ⟨v52, l⟩
  · simp at h
  rcases l with _ | ⟨v53, l⟩
  · simp at h
  rcases l with _ | ⟨v54, l⟩
  · simp at h
  rcases l with _ | ⟨v55, l⟩
  · simp at h
  rcases l with _ | ⟨v56, l⟩
  · simp at h
  rcases l with _ | ⟨v57, l⟩
  · simp at h
  rcases l with _ | ⟨v58, l⟩
  · simp at h
  rcases l with _ | ⟨v59, l⟩
  · simp at h
  rcases l with _ | ⟨v60, l⟩
  · simp at h
  rcases l with _ | ⟨v61, l⟩
  · simp at h
  rcases l with _ | ⟨v62, l⟩
  · simp at h
  rcases l with _ | ⟨v63, l⟩
  · simp at h
  rcases l with _ | ⟨v64, l⟩
  · simp at h
  rcases l with _ | ⟨v65, l⟩
  · simp at h
  rcases l with _ | ⟨v66, l⟩
  · simp at h
  rcases l with _ | ⟨v67, l⟩
  · simp at h
  rcases l with _ | ⟨v68, l⟩
  · simp at h
  rcases l with _ | ⟨v69, l⟩
  · simp at h
  rcases l with _ | ⟨v70, l⟩
  · simp at h
  rcases l with _ | ⟨v71, l⟩
  · simp at h
  rcases l with _ | ⟨v72, l⟩
  · simp at h
  rcases l with _ | ⟨v73, l⟩
  · simp at h
  rcases l with _ | ⟨v74, l⟩
  · simp at h
  rcases l with _ | ⟨v75, l⟩
  · simp at h
  rcases l with _ | ⟨v76, l⟩
  · simp at h
  rcases l with _ | ⟨v77, l⟩
  · simp at h
  rcases l with _ | ⟨v78, l⟩
  · simp at h
  rcases l with _ | ⟨v79, l⟩
  · simp at h
  rcases l with _ | ⟨v80, l⟩
  · simp at h
  rcases l with _ | ⟨v81, l⟩
  · simp at h
  rcases l with _ | ⟨v82, l⟩
  · simp at h
  rcases l with _ | ⟨v83, l⟩
  · simp at h
  rcases l with _ | ⟨x, l⟩
  · exact ⟨v0, v1, v2, v3, v4, v5, v6, v7, v8, v9, v10, v11, v12, v13, v14, v15, v16, v17, v18, v19, v20, v21, v22, v23, v24, v25, v26, v27, v28, v29, v30, v31, v32, v33, v34, v35, v36, v37, v38, v39, v40, v41, v42, v43, v44, v45, v46, v47, v48, v49, v50, v51, v52, v53, v54, v55, v56, v57, v58, v59, v60, v61, v62, v63, v64, v65, v66, v67, v68, v69, v70, v71, v72, v73, v74, v75, v76, v77, v78, v79, v80, v81, v82, v83, rfl⟩
  · simp at h
section
variable {c : Cfg} {lw : Nat} {F : Nat → World → Prop} {Fin : Goroutine → World → Prop} {DA : World → World → Array Event → Prop} {Stp : Goroutine → World → Prop} {mT : Nat}
  {b₀ : Frame} {a₀ : Act} {ops₀ : Array Oper} {i₀ : Nat} {rest₀ : List Nat} {k₀ : List Item} {cs : List Frame}

set_option maxRecDepth 100000 in
set_option maxHeartbeats 0 in
theorem waitRound {P : Program} (H : WgLib P L) (K : c.Ok) (hn : c.n < 2147483648) (hFR : ∀ w w', R0 c lw w w' → F lw w → F lw w') (hFW : ∀ w a v, a.block = c.Wg → F lw w → F lw (w.setCell a v))
    (hDA : ∀ w es, (∀ e ∈ es, False) → DA w w es) (hFin : ∀ g w, F lw w → ConcN.WgLive c.ty c.Wg w → ∀ m, Goes P true AtRel DA Stp m g w → Fin g w)
    (hT : ∀ w, F lw w → ConcN.WgLive c.ty c.Wg w → Goes P true AtRel DA Stp mT (G (b₀.at (a₀.put ((ops₀[i₀]?).bind (·.dst)) (.tuple #[])) (.inRegion ops₀ rest₀ :: k₀)) cs) w)
    (g : Goroutine) (w : World) (h : AnchP L c F (b₀.at a₀ (.inRegion ops₀ (i₀ :: rest₀) :: k₀)) cs lw g w) :
    ∃ m, Goes P true (R0 c lw) (D0 c lw) (AtW1 P c lw (AnchP L c F (b₀.at a₀ (.inRegion ops₀ (i₀ :: rest₀) :: k₀)) cs lw) Fin) m g w := by
  lib_facts
  have rl9 : ∀ {w w₁ : World}, (F lw w ∧ ConcN.WgLive c.ty c.Wg w) → R0 c lw w w₁ → (F lw w₁ ∧ ConcN.WgLive c.ty c.Wg w₁) := fun h r => ⟨hFR _ _ r h.1, r.live h.2⟩
  have rl8 : ∀ {w w₁ : World}, (F lw w ∧ ConcN.WgLive c.ty c.Wg w) → AtRel w w₁ → (F lw w₁ ∧ ConcN.WgLive c.ty c.Wg w₁) := fun h r => by obtain ⟨d, rfl⟩ := r; exact rl9 h (R0.at K _ d)
  obtain ⟨T, rfl, hT84, t0, hF⟩ := h
  obtain ⟨v0, v1, v2, v3, v4, v5, v6, v7, v8, v9, v10, v11, v12, v13, v14, v15, v16, v17, v18, v19, v20, v21, v22, v23, v24, v25, v26, v27, v28, v29, v30, v31, v32, v33, v34, v35, v36, v37, v38, v39, v40, v41, v42, v43, v44, v45, v46, v47, v48, v49, v50, v51, v52, v53, v54, v55, v56, v57, v58, v59, v60, v61, v62, v63, v64, v65, v66, v67, v68, v69, v70, v71, v72, v73, v74, v75, v76, v77, v78, v79, v80, v81, v82, v83, rfl⟩ : ∃ v0 v1 v2 v3 v4 v5 v6 v7 v8 v9 v10 v11 v12 v13 v14 v15 v16 v17 v18 v19 v20 v21 v22 v23 v24 v25 v26 v27 v28 v29 v30 v31 v32 v33 v34 v35 v36 v37 v38 v39 v40 v41 v42 v43 v44 v45 v46 v47 v48 v49 v50 v51 v52 v53 v54 v55 v56 v57 v58 v59 v60 v61 v62 v63 v64 v65 v66 v67 v68 v69 v70 v71 v72 v73 v74 v75 v76 v77 v78 v79 v80 v81 v82 v83, T = #[v0, v1, v2, v3, v4, v5, v6, v7, v8, v9, v10, v11, v12, v13, v14, v15, v16, v17, v18, v19, v20, v21, v22, v23, v24, v25, v26, v27, v28, v29, v30, v31, v32, v33, v34, v35, v36, v37, v38, v39, v40, v41, v42, v43, v44, v45, v46, v47, v48, v49, v50, v51, v52, v53, v54, v55, v56, v57, v58, v59, v60, v61, v62, v63, v64, v65, v66, v67, v68, v69, v70, v71, v72, v73, v74, v75, v76, v77, v78, v79, v80, v81, v82, v83] := by
    exact arr84 T hT84
  simp only [List.getElem?_toArray, List.getElem?_cons_zero, Option.some.injEq] at t0
  subst t0
  refine ⟨200, ?_⟩
  simp only [L7, body_wait, waitFn, Option.getD_some]
  (refine Goes.step rfl (fun _ h₁ => ?_); replace hF := rl9 hF h₁; clear h₁; ((first | rw [stepG_seq] | rw [stepG_region_end] | rw [stepG_skip] | rw [stepG_block] | rw [stepG_loop] | rw [stepG_inBlock] | rw [stepG_inLoop] | rw [stepG_ret'] | rw [stepG_end]); simp only [goes_go]; refine ⟨(by refine d0_none ?_; intro e he; simp at he), ?_⟩))
  (refine Goes.step rfl (fun _ h₁ => ?_); replace hF := rl9 hF h₁; clear h₁; ((first | rw [stepG_seq] | rw [stepG_region_end] | rw [stepG_skip] | rw [stepG_block] | rw [stepG_loop] | rw [stepG_inBlock] | rw [stepG_inLoop] | rw [stepG_ret'] | rw [stepG_end]); simp only [goes_go]; refine ⟨(by refine d0_none ?_; intro e he; simp at he), ?_⟩))
  (refine Goes.step rfl (fun _ h₁ => ?_); replace hF := rl9 hF h₁; clear h₁; (rw [stepG_region]; simp only [goes_go, List.size_toArray, List.length_cons, List.length_nil, Nat.reduceAdd, Nat.zero_add, List.range, List.range.loop]; refine ⟨(by refine d0_none ?_; intro e he; simp at he), ?_⟩))
  (refine Goes.step rfl (fun _ h₁ => ?_); replace hF := rl9 hF h₁; clear h₁; (refine goes_oper_k rfl rfl (by k_ne) (fun K hK => ?_); go_simp; refine hK _ _ ⟨?_, ?_⟩; (· refine d0_none ?_; intro e he; have hm := mem_listed he; simp [go_sem, *] at hm); clear hK K; try w_num))
  (refine Goes.step rfl (fun _ h₁ => ?_); replace hF := rl9 hF h₁; clear h₁; (refine goes_oper_k rfl rfl (by k_ne) (fun K hK => ?_); go_simp; refine hK _ _ ⟨?_, ?_⟩; (· refine d0_none ?_; intro e he; have hm := mem_listed he; simp [go_sem, *] at hm); clear hK K; try w_num))
  (refine Goes.step rfl (fun _ h₁ => ?_); replace hF := rl9 hF h₁; clear h₁; (refine goes_oper_k rfl rfl (by k_ne) (fun K hK => ?_); go_simp; refine hK _ _ ⟨?_, ?_⟩; (· refine d0_none ?_; intro e he; have hm := mem_listed he; simp [go_sem, *] at hm); clear hK K; try w_num))
  (refine Goes.step rfl (fun _ h₁ => ?_); replace hF := rl9 hF h₁; clear h₁; (first | (refine goes_call rfl rfl (by k_ne) rfl H.f_uAdd (nm_uAdd L) rfl ⟨(by refine d0_none ?_; intro e he; simp at he), ?_⟩; walk_nrmf uAddFn) | (refine goes_call rfl rfl (by k_ne) rfl H.f_uLoad (nm_uLoad L) rfl ⟨(by refine d0_none ?_; intro e he; simp at he), ?_⟩; walk_nrmf uLoadFn) | (refine goes_call rfl rfl (by k_ne) rfl H.f_uCas (nm_uCas L) rfl ⟨(by refine d0_none ?_; intro e he; simp at he), ?_⟩; walk_nrmf uCasFn)))
  (refine Goes.step rfl (fun _ h₁ => ?_); replace hF := rl9 hF h₁; clear h₁; ((first | rw [stepG_seq] | rw [stepG_region_end] | rw [stepG_skip] | rw [stepG_block] | rw [stepG_loop] | rw [stepG_inBlock] | rw [stepG_inLoop] | rw [stepG_ret'] | rw [stepG_end]); simp only [goes_go]; refine ⟨(by refine d0_none ?_; intro e he; simp at he), ?_⟩))
  (refine Goes.step rfl (fun _ h₁ => ?_); replace hF := rl9 hF h₁; clear h₁; (rw [stepG_region]; simp only [goes_go, List.size_toArray, List.length_cons, List.length_nil, Nat.reduceAdd, Nat.zero_add, List.range, List.range.loop]; refine ⟨(by refine d0_none ?_; intro e he; simp at he), ?_⟩))
  (refine Goes.step rfl (fun _ h₁ => ?_); replace hF := rl9 hF h₁; clear h₁; (refine goes_oper_k rfl rfl (by k_ne) (fun K hK => ?_); go_simp; refine hK _ _ ⟨?_, ?_⟩; (· refine d0_none ?_; intro e he; have hm := mem_listed he; simp [go_sem, *] at hm); clear hK K; try w_num))
  (refine Goes.step rfl (fun _ h₁ => ?_); replace hF := rl9 hF h₁; clear h₁; ((first | rw [stepG_seq] | rw [stepG_region_end] | rw [stepG_skip] | rw [stepG_block] | rw [stepG_loop] | rw [stepG_inBlock] | rw [stepG_inLoop] | rw [stepG_ret'] | rw [stepG_end]); simp only [goes_go]; refine ⟨(by refine d0_none ?_; intro e he; simp at he), ?_⟩))
  (refine Goes.step rfl (fun _ h₁ => ?_); replace hF := rl9 hF h₁; clear h₁; ((first | rw [stepG_seq] | rw [stepG_region_end] | rw [stepG_skip] | rw [stepG_block] | rw [stepG_loop] | rw [stepG_inBlock] | rw [stepG_inLoop] | rw [stepG_ret'] | rw [stepG_end]); simp only [goes_go]; refine ⟨(by refine d0_none ?_; intro e he; simp at he), ?_⟩))
  (refine Goes.step rfl (fun _ h₁ => ?_); replace hF := rl9 hF h₁; clear h₁; (rw [stepG_region]; simp only [goes_go, List.size_toArray, List.length_cons, List.length_nil, Nat.reduceAdd, Nat.zero_add, List.range, List.range.loop]; refine ⟨(by refine d0_none ?_; intro e he; simp at he), ?_⟩))
  (refine Goes.step rfl (fun _ h₁ => ?_); replace hF := rl9 hF h₁; clear h₁; (refine goes_oper_k rfl rfl (by k_ne) (fun K hK => ?_); go_simp; refine hK _ _ ⟨?_, ?_⟩; (· refine d0_none ?_; intro e he; have hm := mem_listed he; simp [go_sem, *] at hm); clear hK K; try w_num))
  (refine Goes.step rfl (fun _ h₁ => ?_); replace hF := rl9 hF h₁; clear h₁; (refine goes_oper_k rfl rfl (by k_ne) (fun K hK => ?_); go_simp; refine hK _ _ ⟨?_, ?_⟩; (· refine d0_none ?_; intro e he; have hm := mem_listed he; simp [go_sem, *] at hm); clear hK K; try w_num))
  (refine Goes.step rfl (fun _ h₁ => ?_); replace hF := rl9 hF h₁; clear h₁; (refine goes_oper_k rfl rfl (by k_ne) (fun K hK => ?_); go_simp; refine hK _ _ ⟨?_, ?_⟩; (· refine d0_none ?_; intro e he; have hm := mem_listed he; simp [go_sem, *] at hm); clear hK K; try w_num))
  refine Goes.stop (fun w₁ h₁ => ?_)
  replace hF := rl9 hF h₁
  clear h₁
  refine ⟨rfl, fun v hv hw => ?_⟩
  rcases Nat.eq_zero_or_pos v with rfl | hvp
  · replace hw : WgAt c.ty c.Wg w₁ 0 0 := by simpa using hw
    refine ⟨_, stepG_load_atomic (v := 0) rfl rfl (by k_ne) rfl H.f_loadU64 (x_loadU64_n L) (x_loadU64_b L) (x_loadU64_x L) .u64 (x_loadU64_f L) rfl hw.cellSt, fun _ => ⟨200, ?_⟩, fun h => absurd rfl h⟩
    clear hw
    walk_nrm
    (refine Goes.step rfl (fun _ h₁ => ?_); replace hF := rl9 hF h₁; clear h₁; (refine goes_oper_k rfl rfl (by k_ne) (fun K hK => ?_); go_simp; refine hK _ _ ⟨?_, ?_⟩; (· refine d0_none ?_; intro e he; have hm := mem_listed he; simp [go_sem, *] at hm); clear hK K; try w_num))
    (refine Goes.step rfl (fun _ h₁ => ?_); replace hF := rl9 hF h₁; clear h₁; ((first | rw [stepG_seq] | rw [stepG_region_end] | rw [stepG_skip] | rw [stepG_block] | rw [stepG_loop] | rw [stepG_inBlock] | rw [stepG_inLoop] | rw [stepG_ret'] | rw [stepG_end]); simp only [goes_go]; refine ⟨(by refine d0_none ?_; intro e he; simp at he), ?_⟩))
    (refine Goes.step rfl (fun _ h₁ => ?_); replace hF := rl9 hF h₁; clear h₁; ((first | rw [stepG_seq] | rw [stepG_region_end] | rw [stepG_skip] | rw [stepG_block] | rw [stepG_loop] | rw [stepG_inBlock] | rw [stepG_inLoop] | rw [stepG_ret'] | rw [stepG_end]); simp only [goes_go]; refine ⟨(by refine d0_none ?_; intro e he; simp at he), ?_⟩))
    (refine Goes.step rfl (fun _ h₁ => ?_); replace hF := rl9 hF h₁; clear h₁; (first | (refine goes_leave1 rfl rfl H.f_uAdd rfl ⟨(by refine d0_none ?_; intro e he; simp at he), ?_⟩; walk_nrm) | (refine goes_leave1 rfl rfl H.f_uLoad rfl ⟨(by refine d0_none ?_; intro e he; simp at he), ?_⟩; walk_nrm) | (refine goes_leave1 rfl rfl H.f_uCas rfl ⟨(by refine d0_none ?_; intro e he; simp at he), ?_⟩; walk_nrm)))
    (refine Goes.step rfl (fun _ h₁ => ?_); replace hF := rl9 hF h₁; clear h₁; (refine goes_oper_k rfl rfl (by k_ne) (fun K hK => ?_); go_simp; refine hK _ _ ⟨?_, ?_⟩; (· refine d0_none ?_; intro e he; have hm := mem_listed he; simp [go_sem, *] at hm); clear hK K; try w_num))
    (refine Goes.step rfl (fun _ h₁ => ?_); replace hF := rl9 hF h₁; clear h₁; ((first | rw [stepG_seq] | rw [stepG_region_end] | rw [stepG_skip] | rw [stepG_block] | rw [stepG_loop] | rw [stepG_inBlock] | rw [stepG_inLoop] | rw [stepG_ret'] | rw [stepG_end]); simp only [goes_go]; refine ⟨(by refine d0_none ?_; intro e he; simp at he), ?_⟩))
    (refine Goes.step rfl (fun _ h₁ => ?_); replace hF := rl9 hF h₁; clear h₁; ((first | rw [stepG_seq] | rw [stepG_region_end] | rw [stepG_skip] | rw [stepG_block] | rw [stepG_loop] | rw [stepG_inBlock] | rw [stepG_inLoop] | rw [stepG_ret'] | rw [stepG_end]); simp only [goes_go]; refine ⟨(by refine d0_none ?_; intro e he; simp at he), ?_⟩))
    (refine Goes.step rfl (fun _ h₁ => ?_); replace hF := rl9 hF h₁; clear h₁; (rw [stepG_region]; simp only [goes_go, List.size_toArray, List.length_cons, List.length_nil, Nat.reduceAdd, Nat.zero_add, List.range, List.range.loop]; refine ⟨(by refine d0_none ?_; intro e he; simp at he), ?_⟩))
    (refine Goes.step rfl (fun _ h₁ => ?_); replace hF := rl9 hF h₁; clear h₁; (refine goes_oper_k rfl rfl (by k_ne) (fun K hK => ?_); go_simp; refine hK _ _ ⟨?_, ?_⟩; (· refine d0_none ?_; intro e he; have hm := mem_listed he; simp [go_sem, *] at hm); clear hK K; try w_num))
    (refine Goes.step rfl (fun _ h₁ => ?_); replace hF := rl9 hF h₁; clear h₁; (refine goes_oper_k rfl rfl (by k_ne) (fun K hK => ?_); go_simp; refine hK _ _ ⟨?_, ?_⟩; (· refine d0_none ?_; intro e he; have hm := mem_listed he; simp [go_sem, *] at hm); clear hK K; try w_num))
    (refine Goes.step rfl (fun _ h₁ => ?_); replace hF := rl9 hF h₁; clear h₁; (refine goes_oper_k rfl rfl (by k_ne) (fun K hK => ?_); go_simp; refine hK _ _ ⟨?_, ?_⟩; (· refine d0_none ?_; intro e he; have hm := mem_listed he; simp [go_sem, *] at hm); clear hK K; try w_num))
    (refine Goes.step rfl (fun _ h₁ => ?_); replace hF := rl9 hF h₁; clear h₁; (refine goes_oper_k rfl rfl (by k_ne) (fun K hK => ?_); go_simp; refine hK _ _ ⟨?_, ?_⟩; (· refine d0_none ?_; intro e he; have hm := mem_listed he; simp [go_sem, *] at hm); clear hK K; try w_num))
    (refine Goes.step rfl (fun _ h₁ => ?_); replace hF := rl9 hF h₁; clear h₁; ((first | rw [stepG_seq] | rw [stepG_region_end] | rw [stepG_skip] | rw [stepG_block] | rw [stepG_loop] | rw [stepG_inBlock] | rw [stepG_inLoop] | rw [stepG_ret'] | rw [stepG_end]); simp only [goes_go]; refine ⟨(by refine d0_none ?_; intro e he; simp at he), ?_⟩))
    (refine Goes.step rfl (fun _ h₁ => ?_); replace hF := rl9 hF h₁; clear h₁; ((first | rw [stepG_seq] | rw [stepG_region_end] | rw [stepG_skip] | rw [stepG_block] | rw [stepG_loop] | rw [stepG_inBlock] | rw [stepG_inLoop] | rw [stepG_ret'] | rw [stepG_end]); simp only [goes_go]; refine ⟨(by refine d0_none ?_; intro e he; simp at he), ?_⟩))
    (refine Goes.step rfl (fun _ h₁ => ?_); replace hF := rl9 hF h₁; clear h₁; (rw [stepG_region]; simp only [goes_go, List.size_toArray, List.length_cons, List.length_nil, Nat.reduceAdd, Nat.zero_add, List.range, List.range.loop]; refine ⟨(by refine d0_none ?_; intro e he; simp at he), ?_⟩))
    (refine Goes.step rfl (fun _ h₁ => ?_); replace hF := rl9 hF h₁; clear h₁; (refine goes_oper_k rfl rfl (by k_ne) (fun K hK => ?_); go_simp; refine hK _ _ ⟨?_, ?_⟩; (· refine d0_none ?_; intro e he; have hm := mem_listed he; simp [go_sem, *] at hm); clear hK K; try w_num))
    (refine Goes.step rfl (fun _ h₁ => ?_); replace hF := rl9 hF h₁; clear h₁; (refine goes_oper_k rfl rfl (by k_ne) (fun K hK => ?_); go_simp; refine hK _ _ ⟨?_, ?_⟩; (· refine d0_none ?_; intro e he; have hm := mem_listed he; simp [go_sem, *] at hm); clear hK K; try w_num))
    (refine Goes.step rfl (fun _ h₁ => ?_); replace hF := rl9 hF h₁; clear h₁; (refine goes_oper_k rfl rfl (by k_ne) (fun K hK => ?_); go_simp; refine hK _ _ ⟨?_, ?_⟩; (· refine d0_none ?_; intro e he; have hm := mem_listed he; simp [go_sem, *] at hm); clear hK K; try w_num))
    (refine Goes.step rfl (fun _ h₁ => ?_); replace hF := rl9 hF h₁; clear h₁; (refine goes_oper_k rfl rfl (by k_ne) (fun K hK => ?_); go_simp; refine hK _ _ ⟨?_, ?_⟩; (· refine d0_none ?_; intro e he; have hm := mem_listed he; simp [go_sem, *] at hm); clear hK K; try w_num))
    (refine Goes.step rfl (fun _ h₁ => ?_); replace hF := rl9 hF h₁; clear h₁; ((first | rw [stepG_seq] | rw [stepG_region_end] | rw [stepG_skip] | rw [stepG_block] | rw [stepG_loop] | rw [stepG_inBlock] | rw [stepG_inLoop] | rw [stepG_ret'] | rw [stepG_end]); simp only [goes_go]; refine ⟨(by refine d0_none ?_; intro e he; simp at he), ?_⟩))
    (refine Goes.step rfl (fun _ h₁ => ?_); replace hF := rl9 hF h₁; clear h₁; ((first | rw [stepG_seq] | rw [stepG_region_end] | rw [stepG_skip] | rw [stepG_block] | rw [stepG_loop] | rw [stepG_inBlock] | rw [stepG_inLoop] | rw [stepG_ret'] | rw [stepG_end]); simp only [goes_go]; refine ⟨(by refine d0_none ?_; intro e he; simp at he), ?_⟩))
    (refine Goes.step rfl (fun _ h₁ => ?_); replace hF := rl9 hF h₁; clear h₁; ((first | rw [stepG_seq] | rw [stepG_region_end] | rw [stepG_skip] | rw [stepG_block] | rw [stepG_loop] | rw [stepG_inBlock] | rw [stepG_inLoop] | rw [stepG_ret'] | rw [stepG_end]); simp only [goes_go]; refine ⟨(by refine d0_none ?_; intro e he; simp at he), ?_⟩))
    (refine Goes.step rfl (fun _ h₁ => ?_); replace hF := rl9 hF h₁; clear h₁; (rw [stepG_region]; simp only [goes_go, List.size_toArray, List.length_cons, List.length_nil, Nat.reduceAdd, Nat.zero_add, List.range, List.range.loop]; refine ⟨(by refine d0_none ?_; intro e he; simp at he), ?_⟩))
    (refine Goes.step rfl (fun _ h₁ => ?_); replace hF := rl9 hF h₁; clear h₁; (refine goes_oper_k rfl rfl (by k_ne) (fun K hK => ?_); go_simp; refine hK _ _ ⟨?_, ?_⟩; (· refine d0_none ?_; intro e he; have hm := mem_listed he; simp [go_sem, *] at hm); clear hK K; try w_num))
    (refine Goes.step rfl (fun _ h₁ => ?_); replace hF := rl9 hF h₁; clear h₁; (refine goes_oper_k rfl rfl (by k_ne) (fun K hK => ?_); go_simp; refine hK _ _ ⟨?_, ?_⟩; (· refine d0_none ?_; intro e he; have hm := mem_listed he; simp [go_sem, *] at hm); clear hK K; try w_num))
    (refine Goes.step rfl (fun _ h₁ => ?_); replace hF := rl9 hF h₁; clear h₁; ((first | rw [stepG_seq] | rw [stepG_region_end] | rw [stepG_skip] | rw [stepG_block] | rw [stepG_loop] | rw [stepG_inBlock] | rw [stepG_inLoop] | rw [stepG_ret'] | rw [stepG_end]); simp only [goes_go]; refine ⟨(by refine d0_none ?_; intro e he; simp at he), ?_⟩))
    (refine Goes.step rfl (fun _ h₁ => ?_); replace hF := rl9 hF h₁; clear h₁; ((first | rw [stepG_cond (t := true) rfl] | rw [stepG_cond (t := false) rfl] | rw [stepG_cond (t := false) (by simp [Act.eval]; omega)] | rw [stepG_cond (t := true) (by simp [Act.eval]; omega)]); simp only [goes_go, if_true, if_false, Bool.false_eq_true, ↓reduceIte]; refine ⟨(by refine d0_none ?_; intro e he; simp at he), ?_⟩))
    (refine Goes.step rfl (fun _ h₁ => ?_); replace hF := rl9 hF h₁; clear h₁; ((first | rw [stepG_seq] | rw [stepG_region_end] | rw [stepG_skip] | rw [stepG_block] | rw [stepG_loop] | rw [stepG_inBlock] | rw [stepG_inLoop] | rw [stepG_ret'] | rw [stepG_end]); simp only [goes_go]; refine ⟨(by refine d0_none ?_; intro e he; simp at he), ?_⟩))
    (refine Goes.step rfl (fun _ h₁ => ?_); replace hF := rl9 hF h₁; clear h₁; ((first | rw [stepG_cond (t := true) rfl] | rw [stepG_cond (t := false) rfl] | rw [stepG_cond (t := false) (by simp [Act.eval]; omega)] | rw [stepG_cond (t := true) (by simp [Act.eval]; omega)]); simp only [goes_go, if_true, if_false, Bool.false_eq_true, ↓reduceIte]; refine ⟨(by refine d0_none ?_; intro e he; simp at he), ?_⟩))
    (refine Goes.step rfl (fun _ h₁ => ?_); replace hF := rl9 hF h₁; clear h₁; ((first | rw [stepG_seq] | rw [stepG_region_end] | rw [stepG_skip] | rw [stepG_block] | rw [stepG_loop] | rw [stepG_inBlock] | rw [stepG_inLoop] | rw [stepG_ret'] | rw [stepG_end]); simp only [goes_go]; refine ⟨(by refine d0_none ?_; intro e he; simp at he), ?_⟩))
    (refine Goes.step rfl (fun _ h₁ => ?_); replace hF := rl9 hF h₁; clear h₁; (rw [stepG_region]; simp only [goes_go, List.size_toArray, List.length_cons, List.length_nil, Nat.reduceAdd, Nat.zero_add, List.range, List.range.loop]; refine ⟨(by refine d0_none ?_; intro e he; simp at he), ?_⟩))
    refine Goes.stop (fun w₅ h₅ => ?_)
    replace hF := rl9 hF h₅
    clear h₅
    refine ⟨rfl, _, stepG_mark0 .enable (by simp) rfl rfl (by k_ne) rfl H.f_enable (x_enable_n L) (x_enable_b L) (x_enable_x L) (x_enable_f L), 200, ?_⟩
    walk_nrm
    (refine Goes.step rfl (fun _ h₁ => ?_); replace hF := rl9 hF h₁; clear h₁; ((first | rw [stepG_seq] | rw [stepG_region_end] | rw [stepG_skip] | rw [stepG_block] | rw [stepG_loop] | rw [stepG_inBlock] | rw [stepG_inLoop] | rw [stepG_ret'] | rw [stepG_end]); simp only [goes_go]; refine ⟨(by refine d0_none ?_; intro e he; simp at he), ?_⟩))
    (refine Goes.step rfl (fun _ h₁ => ?_); replace hF := rl9 hF h₁; clear h₁; (rw [stepG_region]; simp only [goes_go, List.size_toArray, List.length_cons, List.length_nil, Nat.reduceAdd, Nat.zero_add, List.range, List.range.loop]; refine ⟨(by refine d0_none ?_; intro e he; simp at he), ?_⟩))
    (refine Goes.step rfl (fun _ h₁ => ?_); replace hF := rl9 hF h₁; clear h₁; (refine goes_oper_k rfl rfl (by k_ne) (fun K hK => ?_); go_simp; refine hK _ _ ⟨?_, ?_⟩; (· refine d0_none ?_; intro e he; have hm := mem_listed he; simp [go_sem, *] at hm); clear hK K; try w_num))
    (refine Goes.step rfl (fun _ h₁ => ?_); replace hF := rl9 hF h₁; clear h₁; (refine goes_oper_k rfl rfl (by k_ne) (fun Kx hKx => ?_); first | (have hcv := run_convert_to_unsafe (P := P) H.underlying_tWgP H.underlying_tUP H.room_tWg (WgLive.cell0 hF.2).choose_spec; have hce := fun es => events_convert_to_unsafe (P := P) H.underlying_tWgP H.underlying_tUP H.room_tWg (WgLive.cell0 hF.2).choose_spec es; go_simp; refine hKx _ _ ⟨?_, ?_⟩; (· refine d0_none ?_; intro ex hex; have hmx := mem_listed hex; simp [go_sem, hce] at hmx); clear hKx Kx hcv hce) | (have hcv := run_convert_to_unsafe (P := P) H.underlying_tPU32 H.underlying_tUP H.room_tU32 (WgLive.cell1 hF.2).choose_spec; have hce := fun es => events_convert_to_unsafe (P := P) H.underlying_tPU32 H.underlying_tUP H.room_tU32 (WgLive.cell1 hF.2).choose_spec es; go_simp; refine hKx _ _ ⟨?_, ?_⟩; (· refine d0_none ?_; intro ex hex; have hmx := mem_listed hex; simp [go_sem, hce] at hmx); clear hKx Kx hcv hce)))
    refine Goes.stop (fun w₆ h₆ => ?_)
    replace hF := rl9 hF h₆
    clear h₆
    refine ⟨rfl, _, stepG_markAt .acquire (by simp) rfl rfl (by k_ne) rfl H.f_acquire (x_acquire_n L) (x_acquire_b L) (x_acquire_x L) (x_acquire_f L) (by simp [Act.eval, stA]), rfl, hFin _ _ hF.1 hF.2 (mT + 200) ?_⟩
    walk_nrm
    (refine Goes.step rfl (fun _ h₁ => ?_); replace hF := rl8 hF h₁; clear h₁; ((first | rw [stepG_seq] | rw [stepG_region_end] | rw [stepG_skip] | rw [stepG_block] | rw [stepG_loop] | rw [stepG_inBlock] | rw [stepG_inLoop] | rw [stepG_ret'] | rw [stepG_end]); simp only [goes_go]; refine ⟨(by refine hDA _ _ ?_; intro e he; simp at he), ?_⟩))
    (refine Goes.step rfl (fun _ h₁ => ?_); replace hF := rl8 hF h₁; clear h₁; ((first | rw [stepG_seq] | rw [stepG_region_end] | rw [stepG_skip] | rw [stepG_block] | rw [stepG_loop] | rw [stepG_inBlock] | rw [stepG_inLoop] | rw [stepG_ret'] | rw [stepG_end]); simp only [goes_go]; refine ⟨(by refine hDA _ _ ?_; intro e he; simp at he), ?_⟩))
    (refine Goes.step rfl (fun _ h₁ => ?_); replace hF := rl8 hF h₁; clear h₁; ((first | rw [stepG_seq] | rw [stepG_region_end] | rw [stepG_skip] | rw [stepG_block] | rw [stepG_loop] | rw [stepG_inBlock] | rw [stepG_inLoop] | rw [stepG_ret'] | rw [stepG_end]); simp only [goes_go]; refine ⟨(by refine hDA _ _ ?_; intro e he; simp at he), ?_⟩))
    (refine Goes.step rfl (fun _ h₁ => ?_); replace hF := rl8 hF h₁; clear h₁; (rw [stepG_region]; simp only [goes_go, List.size_toArray, List.length_cons, List.length_nil, Nat.reduceAdd, Nat.zero_add, List.range, List.range.loop]; refine ⟨(by refine hDA _ _ ?_; intro e he; simp at he), ?_⟩))
    (refine Goes.step rfl (fun _ h₁ => ?_); replace hF := rl8 hF h₁; clear h₁; (refine goes_oper_k rfl rfl (by k_ne) (fun K hK => ?_); go_simp; refine hK _ _ ⟨?_, ?_⟩; (· refine hDA _ _ ?_; intro e he; have hm := mem_listed he; simp [go_sem, *] at hm); clear hK K; try w_num))
    (refine Goes.step rfl (fun _ h₁ => ?_); replace hF := rl8 hF h₁; clear h₁; (refine goes_oper_k rfl rfl (by k_ne) (fun K hK => ?_); go_simp; refine hK _ _ ⟨?_, ?_⟩; (· refine hDA _ _ ?_; intro e he; have hm := mem_listed he; simp [go_sem, *] at hm); clear hK K; try w_num))
    (refine Goes.step rfl (fun _ h₁ => ?_); replace hF := rl8 hF h₁; clear h₁; (refine goes_oper_k rfl rfl (by k_ne) (fun K hK => ?_); go_simp; refine hK _ _ ⟨?_, ?_⟩; (· refine hDA _ _ ?_; intro e he; have hm := mem_listed he; simp [go_sem, *] at hm); clear hK K; try w_num))
    (refine Goes.step rfl (fun _ h₁ => ?_); replace hF := rl8 hF h₁; clear h₁; (refine goes_oper_k rfl rfl (by k_ne) (fun K hK => ?_); go_simp; refine hK _ _ ⟨?_, ?_⟩; (· refine hDA _ _ ?_; intro e he; have hm := mem_listed he; simp [go_sem, *] at hm); clear hK K; try w_num))
    (refine Goes.step rfl (fun _ h₁ => ?_); replace hF := rl8 hF h₁; clear h₁; (refine goes_oper_k rfl rfl (by k_ne) (fun K hK => ?_); go_simp; refine hK _ _ ⟨?_, ?_⟩; (· refine hDA _ _ ?_; intro e he; have hm := mem_listed he; simp [go_sem, *] at hm); clear hK K; try w_num))
    (refine Goes.step rfl (fun _ h₁ => ?_); replace hF := rl8 hF h₁; clear h₁; (refine goes_oper_k rfl rfl (by k_ne) (fun K hK => ?_); go_simp; refine hK _ _ ⟨?_, ?_⟩; (· refine hDA _ _ ?_; intro e he; have hm := mem_listed he; simp [go_sem, *] at hm); clear hK K; try w_num))
    (refine Goes.step rfl (fun _ h₁ => ?_); replace hF := rl8 hF h₁; clear h₁; (refine goes_oper_k rfl rfl (by k_ne) (fun K hK => ?_); go_simp; refine hK _ _ ⟨?_, ?_⟩; (· refine hDA _ _ ?_; intro e he; have hm := mem_listed he; simp [go_sem, *] at hm); clear hK K; try w_num))
    (refine Goes.step rfl (fun _ h₁ => ?_); replace hF := rl8 hF h₁; clear h₁; (refine goes_oper_k rfl rfl (by k_ne) (fun K hK => ?_); go_simp; refine hK _ _ ⟨?_, ?_⟩; (· refine hDA _ _ ?_; intro e he; have hm := mem_listed he; simp [go_sem, *] at hm); clear hK K; try w_num))
    (refine Goes.step rfl (fun _ h₁ => ?_); replace hF := rl8 hF h₁; clear h₁; (rw [stepG_unwanted rfl rfl]; simp only [goes_go]; refine ⟨(by refine hDA _ _ ?_; intro e he; simp at he), ?_⟩; walk_nrm))
    (refine Goes.step rfl (fun _ h₁ => ?_); replace hF := rl8 hF h₁; clear h₁; (rw [stepG_unwanted rfl rfl]; simp only [goes_go]; refine ⟨(by refine hDA _ _ ?_; intro e he; simp at he), ?_⟩; walk_nrm))
    (refine Goes.step rfl (fun _ h₁ => ?_); replace hF := rl8 hF h₁; clear h₁; (refine goes_oper_k rfl rfl (by k_ne) (fun K hK => ?_); go_simp; refine hK _ _ ⟨?_, ?_⟩; (· refine hDA _ _ ?_; intro e he; have hm := mem_listed he; simp [go_sem, *] at hm); clear hK K; try w_num))
    (refine Goes.step rfl (fun _ h₁ => ?_); replace hF := rl8 hF h₁; clear h₁; ((first | rw [stepG_seq] | rw [stepG_region_end] | rw [stepG_skip] | rw [stepG_block] | rw [stepG_loop] | rw [stepG_inBlock] | rw [stepG_inLoop] | rw [stepG_ret'] | rw [stepG_end]); simp only [goes_go]; refine ⟨(by refine hDA _ _ ?_; intro e he; simp at he), ?_⟩))
    (refine Goes.step rfl (fun _ h₁ => ?_); replace hF := rl8 hF h₁; clear h₁; ((first | rw [stepG_cond (t := true) rfl] | rw [stepG_cond (t := false) rfl] | rw [stepG_cond (t := false) (by simp [Act.eval]; omega)] | rw [stepG_cond (t := true) (by simp [Act.eval]; omega)]); simp only [goes_go, if_true, if_false, Bool.false_eq_true, ↓reduceIte]; refine ⟨(by refine hDA _ _ ?_; intro e he; simp at he), ?_⟩))
    (refine Goes.step rfl (fun _ h₁ => ?_); replace hF := rl8 hF h₁; clear h₁; ((first | rw [stepG_seq] | rw [stepG_region_end] | rw [stepG_skip] | rw [stepG_block] | rw [stepG_loop] | rw [stepG_inBlock] | rw [stepG_inLoop] | rw [stepG_ret'] | rw [stepG_end]); simp only [goes_go]; refine ⟨(by refine hDA _ _ ?_; intro e he; simp at he), ?_⟩))
    (refine Goes.step rfl (fun _ h₁ => ?_); replace hF := rl8 hF h₁; clear h₁; ((first | rw [stepG_seq] | rw [stepG_region_end] | rw [stepG_skip] | rw [stepG_block] | rw [stepG_loop] | rw [stepG_inBlock] | rw [stepG_inLoop] | rw [stepG_ret'] | rw [stepG_end]); simp only [goes_go]; refine ⟨(by refine hDA _ _ ?_; intro e he; simp at he), ?_⟩))
    refine Goes.step rfl (fun _ h₁ => ?_); replace hF := rl8 hF h₁; clear h₁
    refine goes_leave0 rfl rfl H.f_wait rfl ⟨(by refine hDA _ _ ?_; intro e he; simp at he), ?_⟩
    walk_nrm
    exact Goes.mono (hT _ hF.1 hF.2) (by omega)
  · obtain ⟨S, hS⟩ : ∃ S : Int, (v : Int) * KK = S := ⟨_, rfl⟩
    have a1 : S / 4294967296 = (v : Int) := by rw [← hS]; simp only [KK]; omega
    have b1 : bits .and .u64 S 2147483648 = 0 := by rw [← hS]; have := st_flag v 0 (by omega) (by omega); simpa [KK] using this
    have b2 : bits .and .u64 S 2147483647 = 0 := by rw [← hS]; have := st_waiters v 0 (by omega) (by omega); simpa [KK] using this
    have c1 : IntKind.i32.wrap (v : Int) = (v : Int) := by rw [IntKind.wrap_i32]; omega
    have w1 : IntKind.u64.wrap (S + 1) = S + 1 := by rw [IntKind.wrap_u64, ← hS]; simp only [KK]; omega
    have q3 : decide ((v : Int) < 0) = false := decide_eq_false (by omega)
    have q4 : decide (0 < (v : Int)) = true := decide_eq_true (by omega)
    have q5 : ((v : Int) == 0) = false := by simp; omega
    have q6 : decide ((v : Int) = 0) = false := decide_eq_false (by omega)
    rw [hS] at hw
    refine ⟨_, stepG_load_atomic (v := S) rfl rfl (by k_ne) rfl H.f_loadU64 (x_loadU64_n L) (x_loadU64_b L) (x_loadU64_x L) .u64 (x_loadU64_f L) rfl hw.cellSt, fun h0 => absurd h0 (by omega), fun _ => ⟨200, ?_⟩⟩
    clear hw
    walk_nrm
    (refine Goes.step rfl (fun _ h₁ => ?_); replace hF := rl9 hF h₁; clear h₁; (refine goes_oper_k rfl rfl (by k_ne) (fun K hK => ?_); go_simp; refine hK _ _ ⟨?_, ?_⟩; (· refine d0_none ?_; intro e he; have hm := mem_listed he; simp [go_sem, *] at hm); clear hK K; try w_num))
    (refine Goes.step rfl (fun _ h₁ => ?_); replace hF := rl9 hF h₁; clear h₁; ((first | rw [stepG_seq] | rw [stepG_region_end] | rw [stepG_skip] | rw [stepG_block] | rw [stepG_loop] | rw [stepG_inBlock] | rw [stepG_inLoop] | rw [stepG_ret'] | rw [stepG_end]); simp only [goes_go]; refine ⟨(by refine d0_none ?_; intro e he; simp at he), ?_⟩))
    (refine Goes.step rfl (fun _ h₁ => ?_); replace hF := rl9 hF h₁; clear h₁; ((first | rw [stepG_seq] | rw [stepG_region_end] | rw [stepG_skip] | rw [stepG_block] | rw [stepG_loop] | rw [stepG_inBlock] | rw [stepG_inLoop] | rw [stepG_ret'] | rw [stepG_end]); simp only [goes_go]; refine ⟨(by refine d0_none ?_; intro e he; simp at he), ?_⟩))
    (refine Goes.step rfl (fun _ h₁ => ?_); replace hF := rl9 hF h₁; clear h₁; (first | (refine goes_leave1 rfl rfl H.f_uAdd rfl ⟨(by refine d0_none ?_; intro e he; simp at he), ?_⟩; walk_nrm) | (refine goes_leave1 rfl rfl H.f_uLoad rfl ⟨(by refine d0_none ?_; intro e he; simp at he), ?_⟩; walk_nrm) | (refine goes_leave1 rfl rfl H.f_uCas rfl ⟨(by refine d0_none ?_; intro e he; simp at he), ?_⟩; walk_nrm)))
    (refine Goes.step rfl (fun _ h₁ => ?_); replace hF := rl9 hF h₁; clear h₁; (refine goes_oper_k rfl rfl (by k_ne) (fun K hK => ?_); go_simp; refine hK _ _ ⟨?_, ?_⟩; (· refine d0_none ?_; intro e he; have hm := mem_listed he; simp [go_sem, *] at hm); clear hK K; try w_num))
    (refine Goes.step rfl (fun _ h₁ => ?_); replace hF := rl9 hF h₁; clear h₁; ((first | rw [stepG_seq] | rw [stepG_region_end] | rw [stepG_skip] | rw [stepG_block] | rw [stepG_loop] | rw [stepG_inBlock] | rw [stepG_inLoop] | rw [stepG_ret'] | rw [stepG_end]); simp only [goes_go]; refine ⟨(by refine d0_none ?_; intro e he; simp at he), ?_⟩))
    (refine Goes.step rfl (fun _ h₁ => ?_); replace hF := rl9 hF h₁; clear h₁; ((first | rw [stepG_seq] | rw [stepG_region_end] | rw [stepG_skip] | rw [stepG_block] | rw [stepG_loop] | rw [stepG_inBlock] | rw [stepG_inLoop] | rw [stepG_ret'] | rw [stepG_end]); simp only [goes_go]; refine ⟨(by refine d0_none ?_; intro e he; simp at he), ?_⟩))
    (refine Goes.step rfl (fun _ h₁ => ?_); replace hF := rl9 hF h₁; clear h₁; (rw [stepG_region]; simp only [goes_go, List.size_toArray, List.length_cons, List.length_nil, Nat.reduceAdd, Nat.zero_add, List.range, List.range.loop]; refine ⟨(by refine d0_none ?_; intro e he; simp at he), ?_⟩))
    (refine Goes.step rfl (fun _ h₁ => ?_); replace hF := rl9 hF h₁; clear h₁; (refine goes_oper_k rfl rfl (by k_ne) (fun K hK => ?_); go_simp; refine hK _ _ ⟨?_, ?_⟩; (· refine d0_none ?_; intro e he; have hm := mem_listed he; simp [go_sem, *] at hm); clear hK K; try w_num))
    (refine Goes.step rfl (fun _ h₁ => ?_); replace hF := rl9 hF h₁; clear h₁; (refine goes_oper_k rfl rfl (by k_ne) (fun K hK => ?_); go_simp; refine hK _ _ ⟨?_, ?_⟩; (· refine d0_none ?_; intro e he; have hm := mem_listed he; simp [go_sem, *] at hm); clear hK K; try w_num))
    (refine Goes.step rfl (fun _ h₁ => ?_); replace hF := rl9 hF h₁; clear h₁; (refine goes_oper_k rfl rfl (by k_ne) (fun K hK => ?_); go_simp; refine hK _ _ ⟨?_, ?_⟩; (· refine d0_none ?_; intro e he; have hm := mem_listed he; simp [go_sem, *] at hm); clear hK K; try w_num))
    (refine Goes.step rfl (fun _ h₁ => ?_); replace hF := rl9 hF h₁; clear h₁; (refine goes_oper_k rfl rfl (by k_ne) (fun K hK => ?_); go_simp; refine hK _ _ ⟨?_, ?_⟩; (· refine d0_none ?_; intro e he; have hm := mem_listed he; simp [go_sem, *] at hm); clear hK K; try w_num))
    (refine Goes.step rfl (fun _ h₁ => ?_); replace hF := rl9 hF h₁; clear h₁; ((first | rw [stepG_seq] | rw [stepG_region_end] | rw [stepG_skip] | rw [stepG_block] | rw [stepG_loop] | rw [stepG_inBlock] | rw [stepG_inLoop] | rw [stepG_ret'] | rw [stepG_end]); simp only [goes_go]; refine ⟨(by refine d0_none ?_; intro e he; simp at he), ?_⟩))
    (refine Goes.step rfl (fun _ h₁ => ?_); replace hF := rl9 hF h₁; clear h₁; ((first | rw [stepG_seq] | rw [stepG_region_end] | rw [stepG_skip] | rw [stepG_block] | rw [stepG_loop] | rw [stepG_inBlock] | rw [stepG_inLoop] | rw [stepG_ret'] | rw [stepG_end]); simp only [goes_go]; refine ⟨(by refine d0_none ?_; intro e he; simp at he), ?_⟩))
    (refine Goes.step rfl (fun _ h₁ => ?_); replace hF := rl9 hF h₁; clear h₁; (rw [stepG_region]; simp only [goes_go, List.size_toArray, List.length_cons, List.length_nil, Nat.reduceAdd, Nat.zero_add, List.range, List.range.loop]; refine ⟨(by refine d0_none ?_; intro e he; simp at he), ?_⟩))
    (refine Goes.step rfl (fun _ h₁ => ?_); replace hF := rl9 hF h₁; clear h₁; (refine goes_oper_k rfl rfl (by k_ne) (fun K hK => ?_); go_simp; refine hK _ _ ⟨?_, ?_⟩; (· refine d0_none ?_; intro e he; have hm := mem_listed he; simp [go_sem, *] at hm); clear hK K; try w_num))
    (refine Goes.step rfl (fun _ h₁ => ?_); replace hF := rl9 hF h₁; clear h₁; (refine goes_oper_k rfl rfl (by k_ne) (fun K hK => ?_); go_simp; refine hK _ _ ⟨?_, ?_⟩; (· refine d0_none ?_; intro e he; have hm := mem_listed he; simp [go_sem, *] at hm); clear hK K; try w_num))
    (refine Goes.step rfl (fun _ h₁ => ?_); replace hF := rl9 hF h₁; clear h₁; (refine goes_oper_k rfl rfl (by k_ne) (fun K hK => ?_); go_simp; refine hK _ _ ⟨?_, ?_⟩; (· refine d0_none ?_; intro e he; have hm := mem_listed he; simp [go_sem, *] at hm); clear hK K; try w_num))
    (refine Goes.step rfl (fun _ h₁ => ?_); replace hF := rl9 hF h₁; clear h₁; (refine goes_oper_k rfl rfl (by k_ne) (fun K hK => ?_); go_simp; refine hK _ _ ⟨?_, ?_⟩; (· refine d0_none ?_; intro e he; have hm := mem_listed he; simp [go_sem, *] at hm); clear hK K; try w_num))
    (refine Goes.step rfl (fun _ h₁ => ?_); replace hF := rl9 hF h₁; clear h₁; ((first | rw [stepG_seq] | rw [stepG_region_end] | rw [stepG_skip] | rw [stepG_block] | rw [stepG_loop] | rw [stepG_inBlock] | rw [stepG_inLoop] | rw [stepG_ret'] | rw [stepG_end]); simp only [goes_go]; refine ⟨(by refine d0_none ?_; intro e he; simp at he), ?_⟩))
    (refine Goes.step rfl (fun _ h₁ => ?_); replace hF := rl9 hF h₁; clear h₁; ((first | rw [stepG_seq] | rw [stepG_region_end] | rw [stepG_skip] | rw [stepG_block] | rw [stepG_loop] | rw [stepG_inBlock] | rw [stepG_inLoop] | rw [stepG_ret'] | rw [stepG_end]); simp only [goes_go]; refine ⟨(by refine d0_none ?_; intro e he; simp at he), ?_⟩))
    (refine Goes.step rfl (fun _ h₁ => ?_); replace hF := rl9 hF h₁; clear h₁; ((first | rw [stepG_seq] | rw [stepG_region_end] | rw [stepG_skip] | rw [stepG_block] | rw [stepG_loop] | rw [stepG_inBlock] | rw [stepG_inLoop] | rw [stepG_ret'] | rw [stepG_end]); simp only [goes_go]; refine ⟨(by refine d0_none ?_; intro e he; simp at he), ?_⟩))
    (refine Goes.step rfl (fun _ h₁ => ?_); replace hF := rl9 hF h₁; clear h₁; (rw [stepG_region]; simp only [goes_go, List.size_toArray, List.length_cons, List.length_nil, Nat.reduceAdd, Nat.zero_add, List.range, List.range.loop]; refine ⟨(by refine d0_none ?_; intro e he; simp at he), ?_⟩))
    (refine Goes.step rfl (fun _ h₁ => ?_); replace hF := rl9 hF h₁; clear h₁; (refine goes_oper_k rfl rfl (by k_ne) (fun K hK => ?_); go_simp; refine hK _ _ ⟨?_, ?_⟩; (· refine d0_none ?_; intro e he; have hm := mem_listed he; simp [go_sem, *] at hm); clear hK K; try w_num))
    (refine Goes.step rfl (fun _ h₁ => ?_); replace hF := rl9 hF h₁; clear h₁; (refine goes_oper_k rfl rfl (by k_ne) (fun K hK => ?_); go_simp; refine hK _ _ ⟨?_, ?_⟩; (· refine d0_none ?_; intro e he; have hm := mem_listed he; simp [go_sem, *] at hm); clear hK K; try w_num))
    (refine Goes.step rfl (fun _ h₁ => ?_); replace hF := rl9 hF h₁; clear h₁; ((first | rw [stepG_seq] | rw [stepG_region_end] | rw [stepG_skip] | rw [stepG_block] | rw [stepG_loop] | rw [stepG_inBlock] | rw [stepG_inLoop] | rw [stepG_ret'] | rw [stepG_end]); simp only [goes_go]; refine ⟨(by refine d0_none ?_; intro e he; simp at he), ?_⟩))
    (refine Goes.step rfl (fun _ h₁ => ?_); replace hF := rl9 hF h₁; clear h₁; ((first | rw [stepG_cond (t := true) rfl] | rw [stepG_cond (t := false) rfl] | rw [stepG_cond (t := false) (by simp [Act.eval]; omega)] | rw [stepG_cond (t := true) (by simp [Act.eval]; omega)]); simp only [goes_go, if_true, if_false, Bool.false_eq_true, ↓reduceIte]; refine ⟨(by refine d0_none ?_; intro e he; simp at he), ?_⟩))
    (refine Goes.step rfl (fun _ h₁ => ?_); replace hF := rl9 hF h₁; clear h₁; ((first | rw [stepG_seq] | rw [stepG_region_end] | rw [stepG_skip] | rw [stepG_block] | rw [stepG_loop] | rw [stepG_inBlock] | rw [stepG_inLoop] | rw [stepG_ret'] | rw [stepG_end]); simp only [goes_go]; refine ⟨(by refine d0_none ?_; intro e he; simp at he), ?_⟩))
    (refine Goes.step rfl (fun _ h₁ => ?_); replace hF := rl9 hF h₁; clear h₁; ((first | rw [stepG_seq] | rw [stepG_region_end] | rw [stepG_skip] | rw [stepG_block] | rw [stepG_loop] | rw [stepG_inBlock] | rw [stepG_inLoop] | rw [stepG_ret'] | rw [stepG_end]); simp only [goes_go]; refine ⟨(by refine d0_none ?_; intro e he; simp at he), ?_⟩))
    (refine Goes.step rfl (fun _ h₁ => ?_); replace hF := rl9 hF h₁; clear h₁; (rw [stepG_region]; simp only [goes_go, List.size_toArray, List.length_cons, List.length_nil, Nat.reduceAdd, Nat.zero_add, List.range, List.range.loop]; refine ⟨(by refine d0_none ?_; intro e he; simp at he), ?_⟩))
    (refine Goes.step rfl (fun _ h₁ => ?_); replace hF := rl9 hF h₁; clear h₁; (refine goes_oper_k rfl rfl (by k_ne) (fun K hK => ?_); go_simp; refine hK _ _ ⟨?_, ?_⟩; (· refine d0_none ?_; intro e he; have hm := mem_listed he; simp [go_sem, *] at hm); clear hK K; try w_num))
    (refine Goes.step rfl (fun _ h₁ => ?_); replace hF := rl9 hF h₁; clear h₁; (refine goes_oper_k rfl rfl (by k_ne) (fun K hK => ?_); go_simp; refine hK _ _ ⟨?_, ?_⟩; (· refine d0_none ?_; intro e he; have hm := mem_listed he; simp [go_sem, *] at hm); clear hK K; try w_num))
    (refine Goes.step rfl (fun _ h₁ => ?_); replace hF := rl9 hF h₁; clear h₁; (refine goes_oper_k rfl rfl (by k_ne) (fun K hK => ?_); go_simp; refine hK _ _ ⟨?_, ?_⟩; (· refine d0_none ?_; intro e he; have hm := mem_listed he; simp [go_sem, *] at hm); clear hK K; try w_num))
    (refine Goes.step rfl (fun _ h₁ => ?_); replace hF := rl9 hF h₁; clear h₁; (refine goes_oper_k rfl rfl (by k_ne) (fun K hK => ?_); go_simp; refine hK _ _ ⟨?_, ?_⟩; (· refine d0_none ?_; intro e he; have hm := mem_listed he; simp [go_sem, *] at hm); clear hK K; try w_num))
    (refine Goes.step rfl (fun _ h₁ => ?_); replace hF := rl9 hF h₁; clear h₁; (refine goes_oper_k rfl rfl (by k_ne) (fun K hK => ?_); go_simp; refine hK _ _ ⟨?_, ?_⟩; (· refine d0_none ?_; intro e he; have hm := mem_listed he; simp [go_sem, *] at hm); clear hK K; try w_num))
    (refine Goes.step rfl (fun _ h₁ => ?_); replace hF := rl9 hF h₁; clear h₁; (refine goes_oper_k rfl rfl (by k_ne) (fun K hK => ?_); go_simp; refine hK _ _ ⟨?_, ?_⟩; (· refine d0_none ?_; intro e he; have hm := mem_listed he; simp [go_sem, *] at hm); clear hK K; try w_num))
    (refine Goes.step rfl (fun _ h₁ => ?_); replace hF := rl9 hF h₁; clear h₁; (first | (refine goes_call rfl rfl (by k_ne) rfl H.f_uAdd (nm_uAdd L) rfl ⟨(by refine d0_none ?_; intro e he; simp at he), ?_⟩; walk_nrmf uAddFn) | (refine goes_call rfl rfl (by k_ne) rfl H.f_uLoad (nm_uLoad L) rfl ⟨(by refine d0_none ?_; intro e he; simp at he), ?_⟩; walk_nrmf uLoadFn) | (refine goes_call rfl rfl (by k_ne) rfl H.f_uCas (nm_uCas L) rfl ⟨(by refine d0_none ?_; intro e he; simp at he), ?_⟩; walk_nrmf uCasFn)))
    (refine Goes.step rfl (fun _ h₁ => ?_); replace hF := rl9 hF h₁; clear h₁; ((first | rw [stepG_seq] | rw [stepG_region_end] | rw [stepG_skip] | rw [stepG_block] | rw [stepG_loop] | rw [stepG_inBlock] | rw [stepG_inLoop] | rw [stepG_ret'] | rw [stepG_end]); simp only [goes_go]; refine ⟨(by refine d0_none ?_; intro e he; simp at he), ?_⟩))
    (refine Goes.step rfl (fun _ h₁ => ?_); replace hF := rl9 hF h₁; clear h₁; (rw [stepG_region]; simp only [goes_go, List.size_toArray, List.length_cons, List.length_nil, Nat.reduceAdd, Nat.zero_add, List.range, List.range.loop]; refine ⟨(by refine d0_none ?_; intro e he; simp at he), ?_⟩))
    (refine Goes.step rfl (fun _ h₁ => ?_); replace hF := rl9 hF h₁; clear h₁; (refine goes_oper_k rfl rfl (by k_ne) (fun K hK => ?_); go_simp; refine hK _ _ ⟨?_, ?_⟩; (· refine d0_none ?_; intro e he; have hm := mem_listed he; simp [go_sem, *] at hm); clear hK K; try w_num))
    (refine Goes.step rfl (fun _ h₁ => ?_); replace hF := rl9 hF h₁; clear h₁; ((first | rw [stepG_seq] | rw [stepG_region_end] | rw [stepG_skip] | rw [stepG_block] | rw [stepG_loop] | rw [stepG_inBlock] | rw [stepG_inLoop] | rw [stepG_ret'] | rw [stepG_end]); simp only [goes_go]; refine ⟨(by refine d0_none ?_; intro e he; simp at he), ?_⟩))
    (refine Goes.step rfl (fun _ h₁ => ?_); replace hF := rl9 hF h₁; clear h₁; ((first | rw [stepG_seq] | rw [stepG_region_end] | rw [stepG_skip] | rw [stepG_block] | rw [stepG_loop] | rw [stepG_inBlock] | rw [stepG_inLoop] | rw [stepG_ret'] | rw [stepG_end]); simp only [goes_go]; refine ⟨(by refine d0_none ?_; intro e he; simp at he), ?_⟩))
    (refine Goes.step rfl (fun _ h₁ => ?_); replace hF := rl9 hF h₁; clear h₁; (rw [stepG_region]; simp only [goes_go, List.size_toArray, List.length_cons, List.length_nil, Nat.reduceAdd, Nat.zero_add, List.range, List.range.loop]; refine ⟨(by refine d0_none ?_; intro e he; simp at he), ?_⟩))
    (refine Goes.step rfl (fun _ h₁ => ?_); replace hF := rl9 hF h₁; clear h₁; (refine goes_oper_k rfl rfl (by k_ne) (fun K hK => ?_); go_simp; refine hK _ _ ⟨?_, ?_⟩; (· refine d0_none ?_; intro e he; have hm := mem_listed he; simp [go_sem, *] at hm); clear hK K; try w_num))
    (refine Goes.step rfl (fun _ h₁ => ?_); replace hF := rl9 hF h₁; clear h₁; (refine goes_oper_k rfl rfl (by k_ne) (fun K hK => ?_); go_simp; refine hK _ _ ⟨?_, ?_⟩; (· refine d0_none ?_; intro e he; have hm := mem_listed he; simp [go_sem, *] at hm); clear hK K; try w_num))
    (refine Goes.step rfl (fun _ h₁ => ?_); replace hF := rl9 hF h₁; clear h₁; (refine goes_oper_k rfl rfl (by k_ne) (fun K hK => ?_); go_simp; refine hK _ _ ⟨?_, ?_⟩; (· refine d0_none ?_; intro e he; have hm := mem_listed he; simp [go_sem, *] at hm); clear hK K; try w_num))
    (refine Goes.step rfl (fun _ h₁ => ?_); replace hF := rl9 hF h₁; clear h₁; (refine goes_oper_k rfl rfl (by k_ne) (fun K hK => ?_); go_simp; refine hK _ _ ⟨?_, ?_⟩; (· refine d0_none ?_; intro e he; have hm := mem_listed he; simp [go_sem, *] at hm); clear hK K; try w_num))
    (refine Goes.step rfl (fun _ h₁ => ?_); replace hF := rl9 hF h₁; clear h₁; (refine goes_oper_k rfl rfl (by k_ne) (fun K hK => ?_); go_simp; refine hK _ _ ⟨?_, ?_⟩; (· refine d0_none ?_; intro e he; have hm := mem_listed he; simp [go_sem, *] at hm); clear hK K; try w_num))
    refine Goes.stop (fun w₂ h₂ => ?_)
    replace hF := rl9 hF h₂
    clear h₂
    refine ⟨rfl, fun v' hv' hw => ⟨fun e => ?_, fun e => ?_⟩⟩
    · subst e
      rw [hS] at hw ⊢
      refine ⟨_, (stepG_cas_hit (v := S) (n := S + 1) rfl rfl (by k_ne) rfl H.f_casU64 (x_casU64_n L) (x_casU64_b L) (x_casU64_x L) .u64 (x_casU64_f L) rfl rfl rfl hw.cellSt (hw.thaw 0)).trans (by rfl), 200, ?_⟩
      replace hF : F lw (w₂.setCell (stA c.Wg) (.int .u64 (S + 1))) ∧ ConcN.WgLive c.ty c.Wg (w₂.setCell (stA c.Wg) (.int .u64 (S + 1))) := ⟨hFW _ _ _ rfl hF.1, ⟨_, _, hw.setSt _⟩⟩
      clear hw
      walk_nrm
      (refine Goes.step rfl (fun _ h₁ => ?_); replace hF := rl9 hF h₁; clear h₁; (refine goes_oper_k rfl rfl (by k_ne) (fun K hK => ?_); go_simp; refine hK _ _ ⟨?_, ?_⟩; (· refine d0_none ?_; intro e he; have hm := mem_listed he; simp [go_sem, *] at hm); clear hK K; try w_num))
      (refine Goes.step rfl (fun _ h₁ => ?_); replace hF := rl9 hF h₁; clear h₁; ((first | rw [stepG_seq] | rw [stepG_region_end] | rw [stepG_skip] | rw [stepG_block] | rw [stepG_loop] | rw [stepG_inBlock] | rw [stepG_inLoop] | rw [stepG_ret'] | rw [stepG_end]); simp only [goes_go]; refine ⟨(by refine d0_none ?_; intro e he; simp at he), ?_⟩))
      (refine Goes.step rfl (fun _ h₁ => ?_); replace hF := rl9 hF h₁; clear h₁; ((first | rw [stepG_seq] | rw [stepG_region_end] | rw [stepG_skip] | rw [stepG_block] | rw [stepG_loop] | rw [stepG_inBlock] | rw [stepG_inLoop] | rw [stepG_ret'] | rw [stepG_end]); simp only [goes_go]; refine ⟨(by refine d0_none ?_; intro e he; simp at he), ?_⟩))
      (refine Goes.step rfl (fun _ h₁ => ?_); replace hF := rl9 hF h₁; clear h₁; (first | (refine goes_leave1 rfl rfl H.f_uAdd rfl ⟨(by refine d0_none ?_; intro e he; simp at he), ?_⟩; walk_nrm) | (refine goes_leave1 rfl rfl H.f_uLoad rfl ⟨(by refine d0_none ?_; intro e he; simp at he), ?_⟩; walk_nrm) | (refine goes_leave1 rfl rfl H.f_uCas rfl ⟨(by refine d0_none ?_; intro e he; simp at he), ?_⟩; walk_nrm)))
      (refine Goes.step rfl (fun _ h₁ => ?_); replace hF := rl9 hF h₁; clear h₁; ((first | rw [stepG_seq] | rw [stepG_region_end] | rw [stepG_skip] | rw [stepG_block] | rw [stepG_loop] | rw [stepG_inBlock] | rw [stepG_inLoop] | rw [stepG_ret'] | rw [stepG_end]); simp only [goes_go]; refine ⟨(by refine d0_none ?_; intro e he; simp at he), ?_⟩))
      (refine Goes.step rfl (fun _ h₁ => ?_); replace hF := rl9 hF h₁; clear h₁; ((first | rw [stepG_cond (t := true) rfl] | rw [stepG_cond (t := false) rfl] | rw [stepG_cond (t := false) (by simp [Act.eval]; omega)] | rw [stepG_cond (t := true) (by simp [Act.eval]; omega)]); simp only [goes_go, if_true, if_false, Bool.false_eq_true, ↓reduceIte]; refine ⟨(by refine d0_none ?_; intro e he; simp at he), ?_⟩))
      (refine Goes.step rfl (fun _ h₁ => ?_); replace hF := rl9 hF h₁; clear h₁; ((first | rw [stepG_seq] | rw [stepG_region_end] | rw [stepG_skip] | rw [stepG_block] | rw [stepG_loop] | rw [stepG_inBlock] | rw [stepG_inLoop] | rw [stepG_ret'] | rw [stepG_end]); simp only [goes_go]; refine ⟨(by refine d0_none ?_; intro e he; simp at he), ?_⟩))
      (refine Goes.step rfl (fun _ h₁ => ?_); replace hF := rl9 hF h₁; clear h₁; ((first | rw [stepG_seq] | rw [stepG_region_end] | rw [stepG_skip] | rw [stepG_block] | rw [stepG_loop] | rw [stepG_inBlock] | rw [stepG_inLoop] | rw [stepG_ret'] | rw [stepG_end]); simp only [goes_go]; refine ⟨(by refine d0_none ?_; intro e he; simp at he), ?_⟩))
      (refine Goes.step rfl (fun _ h₁ => ?_); replace hF := rl9 hF h₁; clear h₁; (rw [stepG_region]; simp only [goes_go, List.size_toArray, List.length_cons, List.length_nil, Nat.reduceAdd, Nat.zero_add, List.range, List.range.loop]; refine ⟨(by refine d0_none ?_; intro e he; simp at he), ?_⟩))
      (refine Goes.step rfl (fun _ h₁ => ?_); replace hF := rl9 hF h₁; clear h₁; (refine goes_oper_k rfl rfl (by k_ne) (fun K hK => ?_); go_simp; refine hK _ _ ⟨?_, ?_⟩; (· refine d0_none ?_; intro e he; have hm := mem_listed he; simp [go_sem, *] at hm); clear hK K; try w_num))
      (refine Goes.step rfl (fun _ h₁ => ?_); replace hF := rl9 hF h₁; clear h₁; (refine goes_oper_k rfl rfl (by k_ne) (fun K hK => ?_); go_simp; refine hK _ _ ⟨?_, ?_⟩; (· refine d0_none ?_; intro e he; have hm := mem_listed he; simp [go_sem, *] at hm); clear hK K; try w_num))
      (refine Goes.step rfl (fun _ h₁ => ?_); replace hF := rl9 hF h₁; clear h₁; (refine goes_oper_k rfl rfl (by k_ne) (fun K hK => ?_); go_simp; refine hK _ _ ⟨?_, ?_⟩; (· refine d0_none ?_; intro e he; have hm := mem_listed he; simp [go_sem, *] at hm); clear hK K; try w_num))
      (refine Goes.step rfl (fun _ h₁ => ?_); replace hF := rl9 hF h₁; clear h₁; (refine goes_oper_k rfl rfl (by k_ne) (fun K hK => ?_); go_simp; refine hK _ _ ⟨?_, ?_⟩; (· refine d0_none ?_; intro e he; have hm := mem_listed he; simp [go_sem, *] at hm); clear hK K; try w_num))
      (refine Goes.step rfl (fun _ h₁ => ?_); replace hF := rl9 hF h₁; clear h₁; ((first | rw [stepG_seq] | rw [stepG_region_end] | rw [stepG_skip] | rw [stepG_block] | rw [stepG_loop] | rw [stepG_inBlock] | rw [stepG_inLoop] | rw [stepG_ret'] | rw [stepG_end]); simp only [goes_go]; refine ⟨(by refine d0_none ?_; intro e he; simp at he), ?_⟩))
      (refine Goes.step rfl (fun _ h₁ => ?_); replace hF := rl9 hF h₁; clear h₁; ((first | rw [stepG_cond (t := true) rfl] | rw [stepG_cond (t := false) rfl] | rw [stepG_cond (t := false) (by simp [Act.eval]; omega)] | rw [stepG_cond (t := true) (by simp [Act.eval]; omega)]); simp only [goes_go, if_true, if_false, Bool.false_eq_true, ↓reduceIte]; refine ⟨(by refine d0_none ?_; intro e he; simp at he), ?_⟩))
      (refine Goes.step rfl (fun _ h₁ => ?_); replace hF := rl9 hF h₁; clear h₁; (rw [stepG_region]; simp only [goes_go, List.size_toArray, List.length_cons, List.length_nil, Nat.reduceAdd, Nat.zero_add, List.range, List.range.loop]; refine ⟨(by refine d0_none ?_; intro e he; simp at he), ?_⟩))
      (refine Goes.step rfl (fun _ h₁ => ?_); replace hF := rl9 hF h₁; clear h₁; (refine goes_oper_k rfl rfl (by k_ne) (fun K hK => ?_); go_simp; refine hK _ _ ⟨?_, ?_⟩; (· refine d0_none ?_; intro e he; have hm := mem_listed he; simp [go_sem, *] at hm); clear hK K; try w_num))
      (refine Goes.step rfl (fun _ h₁ => ?_); replace hF := rl9 hF h₁; clear h₁; (refine goes_oper_k rfl rfl (by k_ne) (fun K hK => ?_); go_simp; refine hK _ _ ⟨?_, ?_⟩; (· refine d0_none ?_; intro e he; have hm := mem_listed he; simp [go_sem, *] at hm); clear hK K; try w_num))
      (refine Goes.step rfl (fun _ h₁ => ?_); replace hF := rl9 hF h₁; clear h₁; (refine goes_oper_k rfl rfl (by k_ne) (fun K hK => ?_); go_simp; refine hK _ _ ⟨?_, ?_⟩; (· refine d0_none ?_; intro e he; have hm := mem_listed he; simp [go_sem, *] at hm); clear hK K; try w_num))
      (refine Goes.step rfl (fun _ h₁ => ?_); replace hF := rl9 hF h₁; clear h₁; (refine goes_oper_k rfl rfl (by k_ne) (fun Kx hKx => ?_); first | (have hcv := run_convert_to_unsafe (P := P) H.underlying_tWgP H.underlying_tUP H.room_tWg (WgLive.cell0 hF.2).choose_spec; have hce := fun es => events_convert_to_unsafe (P := P) H.underlying_tWgP H.underlying_tUP H.room_tWg (WgLive.cell0 hF.2).choose_spec es; go_simp; refine hKx _ _ ⟨?_, ?_⟩; (· refine d0_none ?_; intro ex hex; have hmx := mem_listed hex; simp [go_sem, hce] at hmx); clear hKx Kx hcv hce) | (have hcv := run_convert_to_unsafe (P := P) H.underlying_tPU32 H.underlying_tUP H.room_tU32 (WgLive.cell1 hF.2).choose_spec; have hce := fun es => events_convert_to_unsafe (P := P) H.underlying_tPU32 H.underlying_tUP H.room_tU32 (WgLive.cell1 hF.2).choose_spec es; go_simp; refine hKx _ _ ⟨?_, ?_⟩; (· refine d0_none ?_; intro ex hex; have hmx := mem_listed hex; simp [go_sem, hce] at hmx); clear hKx Kx hcv hce)))
      (refine Goes.step rfl (fun _ h₁ => ?_); replace hF := rl9 hF h₁; clear h₁; (first | (rw [stepG_markAt .read (by simp) rfl rfl (by k_ne) rfl H.f_raceRead (x_raceRead_n L) (x_raceRead_b L) (x_raceRead_x L) (x_raceRead_f L) (ad := ⟨c.Wg, 1, none⟩) (by simp [Act.eval])]; simp only [goes_go]; refine ⟨d0_said K _ rfl (.inl rfl), ?_⟩; walk_nrm) | (rw [stepG_markAt .write (by simp) rfl rfl (by k_ne) rfl H.f_raceWrite (x_raceWrite_n L) (x_raceWrite_b L) (x_raceWrite_x L) (x_raceWrite_f L) (ad := ⟨c.Wg, 1, none⟩) (by simp [Act.eval])]; simp only [goes_go]; refine ⟨d0_said K _ rfl (.inr rfl), ?_⟩; try walk_nrm)))
      (refine Goes.step rfl (fun _ h₁ => ?_); replace hF := rl9 hF h₁; clear h₁; ((first | rw [stepG_seq] | rw [stepG_region_end] | rw [stepG_skip] | rw [stepG_block] | rw [stepG_loop] | rw [stepG_inBlock] | rw [stepG_inLoop] | rw [stepG_ret'] | rw [stepG_end]); simp only [goes_go]; refine ⟨(by refine d0_none ?_; intro e he; simp at he), ?_⟩))
      (refine Goes.step rfl (fun _ h₁ => ?_); replace hF := rl9 hF h₁; clear h₁; ((first | rw [stepG_seq] | rw [stepG_region_end] | rw [stepG_skip] | rw [stepG_block] | rw [stepG_loop] | rw [stepG_inBlock] | rw [stepG_inLoop] | rw [stepG_ret'] | rw [stepG_end]); simp only [goes_go]; refine ⟨(by refine d0_none ?_; intro e he; simp at he), ?_⟩))
      (refine Goes.step rfl (fun _ h₁ => ?_); replace hF := rl9 hF h₁; clear h₁; (rw [stepG_region]; simp only [goes_go, List.size_toArray, List.length_cons, List.length_nil, Nat.reduceAdd, Nat.zero_add, List.range, List.range.loop]; refine ⟨(by refine d0_none ?_; intro e he; simp at he), ?_⟩))
      (refine Goes.step rfl (fun _ h₁ => ?_); replace hF := rl9 hF h₁; clear h₁; (refine goes_oper_k rfl rfl (by k_ne) (fun K hK => ?_); go_simp; refine hK _ _ ⟨?_, ?_⟩; (· refine d0_none ?_; intro e he; have hm := mem_listed he; simp [go_sem, *] at hm); clear hK K; try w_num))
      (refine Goes.step rfl (fun _ h₁ => ?_); replace hF := rl9 hF h₁; clear h₁; ((first | rw [stepG_seq] | rw [stepG_region_end] | rw [stepG_skip] | rw [stepG_block] | rw [stepG_loop] | rw [stepG_inBlock] | rw [stepG_inLoop] | rw [stepG_ret'] | rw [stepG_end]); simp only [goes_go]; refine ⟨(by refine d0_none ?_; intro e he; simp at he), ?_⟩))
      (refine Goes.step rfl (fun _ h₁ => ?_); replace hF := rl9 hF h₁; clear h₁; ((first | rw [stepG_seq] | rw [stepG_region_end] | rw [stepG_skip] | rw [stepG_block] | rw [stepG_loop] | rw [stepG_inBlock] | rw [stepG_inLoop] | rw [stepG_ret'] | rw [stepG_end]); simp only [goes_go]; refine ⟨(by refine d0_none ?_; intro e he; simp at he), ?_⟩))
      (refine Goes.step rfl (fun _ h₁ => ?_); replace hF := rl9 hF h₁; clear h₁; ((first | rw [stepG_seq] | rw [stepG_region_end] | rw [stepG_skip] | rw [stepG_block] | rw [stepG_loop] | rw [stepG_inBlock] | rw [stepG_inLoop] | rw [stepG_ret'] | rw [stepG_end]); simp only [goes_go]; refine ⟨(by refine d0_none ?_; intro e he; simp at he), ?_⟩))
      (refine Goes.step rfl (fun _ h₁ => ?_); replace hF := rl9 hF h₁; clear h₁; (rw [stepG_region]; simp only [goes_go, List.size_toArray, List.length_cons, List.length_nil, Nat.reduceAdd, Nat.zero_add, List.range, List.range.loop]; refine ⟨(by refine d0_none ?_; intro e he; simp at he), ?_⟩))
      (refine Goes.step rfl (fun _ h₁ => ?_); replace hF := rl9 hF h₁; clear h₁; (refine goes_oper_k rfl rfl (by k_ne) (fun K hK => ?_); go_simp; refine hK _ _ ⟨?_, ?_⟩; (· refine d0_none ?_; intro e he; have hm := mem_listed he; simp [go_sem, *] at hm); clear hK K; try w_num))
      (refine Goes.step rfl (fun _ h₁ => ?_); replace hF := rl9 hF h₁; clear h₁; (refine goes_oper_k rfl rfl (by k_ne) (fun K hK => ?_); go_simp; refine hK _ _ ⟨?_, ?_⟩; (· refine d0_none ?_; intro e he; have hm := mem_listed he; simp [go_sem, *] at hm); clear hK K; try w_num))
      (refine Goes.step rfl (fun _ h₁ => ?_); replace hF := rl9 hF h₁; clear h₁; (refine goes_oper_k rfl rfl (by k_ne) (fun K hK => ?_); go_simp; refine hK _ _ ⟨?_, ?_⟩; (· refine d0_none ?_; intro e he; have hm := mem_listed he; simp [go_sem, *] at hm); clear hK K; try w_num))
      (refine Goes.step rfl (fun _ h₁ => ?_); replace hF := rl9 hF h₁; clear h₁; (refine goes_oper_k rfl rfl (by k_ne) (fun K hK => ?_); go_simp; refine hK _ _ ⟨?_, ?_⟩; (· refine d0_none ?_; intro e he; have hm := mem_listed he; simp [go_sem, *] at hm); clear hK K; try w_num))
      (refine Goes.step rfl (fun _ h₁ => ?_); replace hF := rl9 hF h₁; clear h₁; (rw [stepG_unwanted rfl rfl]; simp only [goes_go]; refine ⟨(by refine d0_none ?_; intro e he; simp at he), ?_⟩; walk_nrm))
      (refine Goes.step rfl (fun _ h₁ => ?_); replace hF := rl9 hF h₁; clear h₁; (refine goes_oper_k rfl rfl (by k_ne) (fun K hK => ?_); go_simp; refine hK _ _ ⟨?_, ?_⟩; (· refine d0_none ?_; intro e he; have hm := mem_listed he; simp [go_sem, *] at hm); clear hK K; try w_num))
      (refine Goes.step rfl (fun _ h₁ => ?_); replace hF := rl9 hF h₁; clear h₁; ((first | rw [stepG_seq] | rw [stepG_region_end] | rw [stepG_skip] | rw [stepG_block] | rw [stepG_loop] | rw [stepG_inBlock] | rw [stepG_inLoop] | rw [stepG_ret'] | rw [stepG_end]); simp only [goes_go]; refine ⟨(by refine d0_none ?_; intro e he; simp at he), ?_⟩))
      (refine Goes.step rfl (fun _ h₁ => ?_); replace hF := rl9 hF h₁; clear h₁; ((first | rw [stepG_cond (t := true) rfl] | rw [stepG_cond (t := false) rfl] | rw [stepG_cond (t := false) (by simp [Act.eval]; omega)] | rw [stepG_cond (t := true) (by simp [Act.eval]; omega)]); simp only [goes_go, if_true, if_false, Bool.false_eq_true, ↓reduceIte]; refine ⟨(by refine d0_none ?_; intro e he; simp at he), ?_⟩))
      (refine Goes.step rfl (fun _ h₁ => ?_); replace hF := rl9 hF h₁; clear h₁; ((first | rw [stepG_seq] | rw [stepG_region_end] | rw [stepG_skip] | rw [stepG_block] | rw [stepG_loop] | rw [stepG_inBlock] | rw [stepG_inLoop] | rw [stepG_ret'] | rw [stepG_end]); simp only [goes_go]; refine ⟨(by refine d0_none ?_; intro e he; simp at he), ?_⟩))
      (refine Goes.step rfl (fun _ h₁ => ?_); replace hF := rl9 hF h₁; clear h₁; ((first | rw [stepG_seq] | rw [stepG_region_end] | rw [stepG_skip] | rw [stepG_block] | rw [stepG_loop] | rw [stepG_inBlock] | rw [stepG_inLoop] | rw [stepG_ret'] | rw [stepG_end]); simp only [goes_go]; refine ⟨(by refine d0_none ?_; intro e he; simp at he), ?_⟩))
      (refine Goes.step rfl (fun _ h₁ => ?_); replace hF := rl9 hF h₁; clear h₁; (rw [stepG_region]; simp only [goes_go, List.size_toArray, List.length_cons, List.length_nil, Nat.reduceAdd, Nat.zero_add, List.range, List.range.loop]; refine ⟨(by refine d0_none ?_; intro e he; simp at he), ?_⟩))
      (refine Goes.step rfl (fun _ h₁ => ?_); replace hF := rl9 hF h₁; clear h₁; (refine goes_oper_k rfl rfl (by k_ne) (fun K hK => ?_); go_simp; refine hK _ _ ⟨?_, ?_⟩; (· refine d0_none ?_; intro e he; have hm := mem_listed he; simp [go_sem, *] at hm); clear hK K; try w_num))
      (refine Goes.step rfl (fun _ h₁ => ?_); replace hF := rl9 hF h₁; clear h₁; (refine goes_oper_k rfl rfl (by k_ne) (fun K hK => ?_); go_simp; refine hK _ _ ⟨?_, ?_⟩; (· refine d0_none ?_; intro e he; have hm := mem_listed he; simp [go_sem, *] at hm); clear hK K; try w_num))
      (refine Goes.step rfl (fun _ h₁ => ?_); replace hF := rl9 hF h₁; clear h₁; (refine goes_oper_k rfl rfl (by k_ne) (fun K hK => ?_); go_simp; refine hK _ _ ⟨?_, ?_⟩; (· refine d0_none ?_; intro e he; have hm := mem_listed he; simp [go_sem, *] at hm); clear hK K; try w_num))
      (refine Goes.step rfl (fun _ h₁ => ?_); replace hF := rl9 hF h₁; clear h₁; (refine goes_oper_k rfl rfl (by k_ne) (fun K hK => ?_); go_simp; refine hK _ _ ⟨?_, ?_⟩; (· refine d0_none ?_; intro e he; have hm := mem_listed he; simp [go_sem, *] at hm); clear hK K; try w_num))
      refine Goes.stop (fun w₃ h₃ => ?_)
      replace hF := rl9 hF h₃
      clear h₃
      refine ⟨rfl, rfl, fun ⟨st, hw⟩ => stepG_semacquire_wait rfl rfl rfl H.f_semacquire (x_semacquire_n L) (x_semacquire_b L) (x_semacquire_x L) (x_semacquire_f L) (by simp [Act.eval, smA]) hw.cellSm, fun hf => ?_⟩
      refine ⟨_, (stepG_semacquire (n := 1) rfl rfl (by k_ne) rfl H.f_semacquire (x_semacquire_n L) (x_semacquire_b L) (x_semacquire_x L) (x_semacquire_f L) (by simp [Act.eval, smA]) hf.cellSm (by k_ne) (hf.thaw 1)).trans (by rfl), 200, ?_⟩
      replace hF : F lw (w₃.setCell (smA c.Wg) (.int .u32 0)) ∧ ConcN.WgLive c.ty c.Wg (w₃.setCell (smA c.Wg) (.int .u32 0)) := ⟨hFW _ _ _ rfl hF.1, ⟨_, _, hf.setSm 0⟩⟩
      clear hf
      walk_nrm
      (refine Goes.step rfl (fun _ h₁ => ?_); replace hF := rl9 hF h₁; clear h₁; ((first | rw [stepG_seq] | rw [stepG_region_end] | rw [stepG_skip] | rw [stepG_block] | rw [stepG_loop] | rw [stepG_inBlock] | rw [stepG_inLoop] | rw [stepG_ret'] | rw [stepG_end]); simp only [goes_go]; refine ⟨(by refine d0_none ?_; intro e he; simp at he), ?_⟩))
      (refine Goes.step rfl (fun _ h₁ => ?_); replace hF := rl9 hF h₁; clear h₁; ((first | rw [stepG_seq] | rw [stepG_region_end] | rw [stepG_skip] | rw [stepG_block] | rw [stepG_loop] | rw [stepG_inBlock] | rw [stepG_inLoop] | rw [stepG_ret'] | rw [stepG_end]); simp only [goes_go]; refine ⟨(by refine d0_none ?_; intro e he; simp at he), ?_⟩))
      (refine Goes.step rfl (fun _ h₁ => ?_); replace hF := rl9 hF h₁; clear h₁; (rw [stepG_region]; simp only [goes_go, List.size_toArray, List.length_cons, List.length_nil, Nat.reduceAdd, Nat.zero_add, List.range, List.range.loop]; refine ⟨(by refine d0_none ?_; intro e he; simp at he), ?_⟩))
      (refine Goes.step rfl (fun _ h₁ => ?_); replace hF := rl9 hF h₁; clear h₁; (refine goes_oper_k rfl rfl (by k_ne) (fun K hK => ?_); go_simp; refine hK _ _ ⟨?_, ?_⟩; (· refine d0_none ?_; intro e he; have hm := mem_listed he; simp [go_sem, *] at hm); clear hK K; try w_num))
      (refine Goes.step rfl (fun _ h₁ => ?_); replace hF := rl9 hF h₁; clear h₁; (refine goes_oper_k rfl rfl (by k_ne) (fun K hK => ?_); go_simp; refine hK _ _ ⟨?_, ?_⟩; (· refine d0_none ?_; intro e he; have hm := mem_listed he; simp [go_sem, *] at hm); clear hK K; try w_num))
      (refine Goes.step rfl (fun _ h₁ => ?_); replace hF := rl9 hF h₁; clear h₁; (refine goes_oper_k rfl rfl (by k_ne) (fun K hK => ?_); go_simp; refine hK _ _ ⟨?_, ?_⟩; (· refine d0_none ?_; intro e he; have hm := mem_listed he; simp [go_sem, *] at hm); clear hK K; try w_num))
      (refine Goes.step rfl (fun _ h₁ => ?_); replace hF := rl9 hF h₁; clear h₁; (first | (refine goes_call rfl rfl (by k_ne) rfl H.f_uAdd (nm_uAdd L) rfl ⟨(by refine d0_none ?_; intro e he; simp at he), ?_⟩; walk_nrmf uAddFn) | (refine goes_call rfl rfl (by k_ne) rfl H.f_uLoad (nm_uLoad L) rfl ⟨(by refine d0_none ?_; intro e he; simp at he), ?_⟩; walk_nrmf uLoadFn) | (refine goes_call rfl rfl (by k_ne) rfl H.f_uCas (nm_uCas L) rfl ⟨(by refine d0_none ?_; intro e he; simp at he), ?_⟩; walk_nrmf uCasFn)))
      (refine Goes.step rfl (fun _ h₁ => ?_); replace hF := rl9 hF h₁; clear h₁; ((first | rw [stepG_seq] | rw [stepG_region_end] | rw [stepG_skip] | rw [stepG_block] | rw [stepG_loop] | rw [stepG_inBlock] | rw [stepG_inLoop] | rw [stepG_ret'] | rw [stepG_end]); simp only [goes_go]; refine ⟨(by refine d0_none ?_; intro e he; simp at he), ?_⟩))
      (refine Goes.step rfl (fun _ h₁ => ?_); replace hF := rl9 hF h₁; clear h₁; (rw [stepG_region]; simp only [goes_go, List.size_toArray, List.length_cons, List.length_nil, Nat.reduceAdd, Nat.zero_add, List.range, List.range.loop]; refine ⟨(by refine d0_none ?_; intro e he; simp at he), ?_⟩))
      (refine Goes.step rfl (fun _ h₁ => ?_); replace hF := rl9 hF h₁; clear h₁; (refine goes_oper_k rfl rfl (by k_ne) (fun K hK => ?_); go_simp; refine hK _ _ ⟨?_, ?_⟩; (· refine d0_none ?_; intro e he; have hm := mem_listed he; simp [go_sem, *] at hm); clear hK K; try w_num))
      (refine Goes.step rfl (fun _ h₁ => ?_); replace hF := rl9 hF h₁; clear h₁; ((first | rw [stepG_seq] | rw [stepG_region_end] | rw [stepG_skip] | rw [stepG_block] | rw [stepG_loop] | rw [stepG_inBlock] | rw [stepG_inLoop] | rw [stepG_ret'] | rw [stepG_end]); simp only [goes_go]; refine ⟨(by refine d0_none ?_; intro e he; simp at he), ?_⟩))
      (refine Goes.step rfl (fun _ h₁ => ?_); replace hF := rl9 hF h₁; clear h₁; ((first | rw [stepG_seq] | rw [stepG_region_end] | rw [stepG_skip] | rw [stepG_block] | rw [stepG_loop] | rw [stepG_inBlock] | rw [stepG_inLoop] | rw [stepG_ret'] | rw [stepG_end]); simp only [goes_go]; refine ⟨(by refine d0_none ?_; intro e he; simp at he), ?_⟩))
      (refine Goes.step rfl (fun _ h₁ => ?_); replace hF := rl9 hF h₁; clear h₁; (rw [stepG_region]; simp only [goes_go, List.size_toArray, List.length_cons, List.length_nil, Nat.reduceAdd, Nat.zero_add, List.range, List.range.loop]; refine ⟨(by refine d0_none ?_; intro e he; simp at he), ?_⟩))
      (refine Goes.step rfl (fun _ h₁ => ?_); replace hF := rl9 hF h₁; clear h₁; (refine goes_oper_k rfl rfl (by k_ne) (fun K hK => ?_); go_simp; refine hK _ _ ⟨?_, ?_⟩; (· refine d0_none ?_; intro e he; have hm := mem_listed he; simp [go_sem, *] at hm); clear hK K; try w_num))
      (refine Goes.step rfl (fun _ h₁ => ?_); replace hF := rl9 hF h₁; clear h₁; (refine goes_oper_k rfl rfl (by k_ne) (fun K hK => ?_); go_simp; refine hK _ _ ⟨?_, ?_⟩; (· refine d0_none ?_; intro e he; have hm := mem_listed he; simp [go_sem, *] at hm); clear hK K; try w_num))
      (refine Goes.step rfl (fun _ h₁ => ?_); replace hF := rl9 hF h₁; clear h₁; (refine goes_oper_k rfl rfl (by k_ne) (fun K hK => ?_); go_simp; refine hK _ _ ⟨?_, ?_⟩; (· refine d0_none ?_; intro e he; have hm := mem_listed he; simp [go_sem, *] at hm); clear hK K; try w_num))
      refine Goes.stop (fun w₄ h₄ => ?_)
      replace hF := rl9 hF h₄
      clear h₄
      refine ⟨rfl, fun hw => ⟨_, stepG_load_atomic (v := 0) rfl rfl (by k_ne) rfl H.f_loadU64 (x_loadU64_n L) (x_loadU64_b L) (x_loadU64_x L) .u64 (x_loadU64_f L) rfl hw.cellSt, 200, ?_⟩⟩
      clear hw
      walk_nrm
      (refine Goes.step rfl (fun _ h₁ => ?_); replace hF := rl9 hF h₁; clear h₁; (refine goes_oper_k rfl rfl (by k_ne) (fun K hK => ?_); go_simp; refine hK _ _ ⟨?_, ?_⟩; (· refine d0_none ?_; intro e he; have hm := mem_listed he; simp [go_sem, *] at hm); clear hK K; try w_num))
      (refine Goes.step rfl (fun _ h₁ => ?_); replace hF := rl9 hF h₁; clear h₁; ((first | rw [stepG_seq] | rw [stepG_region_end] | rw [stepG_skip] | rw [stepG_block] | rw [stepG_loop] | rw [stepG_inBlock] | rw [stepG_inLoop] | rw [stepG_ret'] | rw [stepG_end]); simp only [goes_go]; refine ⟨(by refine d0_none ?_; intro e he; simp at he), ?_⟩))
      (refine Goes.step rfl (fun _ h₁ => ?_); replace hF := rl9 hF h₁; clear h₁; ((first | rw [stepG_seq] | rw [stepG_region_end] | rw [stepG_skip] | rw [stepG_block] | rw [stepG_loop] | rw [stepG_inBlock] | rw [stepG_inLoop] | rw [stepG_ret'] | rw [stepG_end]); simp only [goes_go]; refine ⟨(by refine d0_none ?_; intro e he; simp at he), ?_⟩))
      (refine Goes.step rfl (fun _ h₁ => ?_); replace hF := rl9 hF h₁; clear h₁; (first | (refine goes_leave1 rfl rfl H.f_uAdd rfl ⟨(by refine d0_none ?_; intro e he; simp at he), ?_⟩; walk_nrm) | (refine goes_leave1 rfl rfl H.f_uLoad rfl ⟨(by refine d0_none ?_; intro e he; simp at he), ?_⟩; walk_nrm) | (refine goes_leave1 rfl rfl H.f_uCas rfl ⟨(by refine d0_none ?_; intro e he; simp at he), ?_⟩; walk_nrm)))
      (refine Goes.step rfl (fun _ h₁ => ?_); replace hF := rl9 hF h₁; clear h₁; (refine goes_oper_k rfl rfl (by k_ne) (fun K hK => ?_); go_simp; refine hK _ _ ⟨?_, ?_⟩; (· refine d0_none ?_; intro e he; have hm := mem_listed he; simp [go_sem, *] at hm); clear hK K; try w_num))
      (refine Goes.step rfl (fun _ h₁ => ?_); replace hF := rl9 hF h₁; clear h₁; (refine goes_oper_k rfl rfl (by k_ne) (fun K hK => ?_); go_simp; refine hK _ _ ⟨?_, ?_⟩; (· refine d0_none ?_; intro e he; have hm := mem_listed he; simp [go_sem, *] at hm); clear hK K; try w_num))
      (refine Goes.step rfl (fun _ h₁ => ?_); replace hF := rl9 hF h₁; clear h₁; ((first | rw [stepG_seq] | rw [stepG_region_end] | rw [stepG_skip] | rw [stepG_block] | rw [stepG_loop] | rw [stepG_inBlock] | rw [stepG_inLoop] | rw [stepG_ret'] | rw [stepG_end]); simp only [goes_go]; refine ⟨(by refine d0_none ?_; intro e he; simp at he), ?_⟩))
      (refine Goes.step rfl (fun _ h₁ => ?_); replace hF := rl9 hF h₁; clear h₁; ((first | rw [stepG_seq] | rw [stepG_region_end] | rw [stepG_skip] | rw [stepG_block] | rw [stepG_loop] | rw [stepG_inBlock] | rw [stepG_inLoop] | rw [stepG_ret'] | rw [stepG_end]); simp only [goes_go]; refine ⟨(by refine d0_none ?_; intro e he; simp at he), ?_⟩))
      (refine Goes.step rfl (fun _ h₁ => ?_); replace hF := rl9 hF h₁; clear h₁; ((first | rw [stepG_cond (t := true) rfl] | rw [stepG_cond (t := false) rfl] | rw [stepG_cond (t := false) (by simp [Act.eval]; omega)] | rw [stepG_cond (t := true) (by simp [Act.eval]; omega)]); simp only [goes_go, if_true, if_false, Bool.false_eq_true, ↓reduceIte]; refine ⟨(by refine d0_none ?_; intro e he; simp at he), ?_⟩))
      (refine Goes.step rfl (fun _ h₁ => ?_); replace hF := rl9 hF h₁; clear h₁; ((first | rw [stepG_seq] | rw [stepG_region_end] | rw [stepG_skip] | rw [stepG_block] | rw [stepG_loop] | rw [stepG_inBlock] | rw [stepG_inLoop] | rw [stepG_ret'] | rw [stepG_end]); simp only [goes_go]; refine ⟨(by refine d0_none ?_; intro e he; simp at he), ?_⟩))
      (refine Goes.step rfl (fun _ h₁ => ?_); replace hF := rl9 hF h₁; clear h₁; (rw [stepG_region]; simp only [goes_go, List.size_toArray, List.length_cons, List.length_nil, Nat.reduceAdd, Nat.zero_add, List.range, List.range.loop]; refine ⟨(by refine d0_none ?_; intro e he; simp at he), ?_⟩))
      refine Goes.stop (fun w₅ h₅ => ?_)
      replace hF := rl9 hF h₅
      clear h₅
      refine ⟨rfl, _, stepG_mark0 .enable (by simp) rfl rfl (by k_ne) rfl H.f_enable (x_enable_n L) (x_enable_b L) (x_enable_x L) (x_enable_f L), 200, ?_⟩
      walk_nrm
      (refine Goes.step rfl (fun _ h₁ => ?_); replace hF := rl9 hF h₁; clear h₁; ((first | rw [stepG_seq] | rw [stepG_region_end] | rw [stepG_skip] | rw [stepG_block] | rw [stepG_loop] | rw [stepG_inBlock] | rw [stepG_inLoop] | rw [stepG_ret'] | rw [stepG_end]); simp only [goes_go]; refine ⟨(by refine d0_none ?_; intro e he; simp at he), ?_⟩))
      (refine Goes.step rfl (fun _ h₁ => ?_); replace hF := rl9 hF h₁; clear h₁; (rw [stepG_region]; simp only [goes_go, List.size_toArray, List.length_cons, List.length_nil, Nat.reduceAdd, Nat.zero_add, List.range, List.range.loop]; refine ⟨(by refine d0_none ?_; intro e he; simp at he), ?_⟩))
      (refine Goes.step rfl (fun _ h₁ => ?_); replace hF := rl9 hF h₁; clear h₁; (refine goes_oper_k rfl rfl (by k_ne) (fun K hK => ?_); go_simp; refine hK _ _ ⟨?_, ?_⟩; (· refine d0_none ?_; intro e he; have hm := mem_listed he; simp [go_sem, *] at hm); clear hK K; try w_num))
      (refine Goes.step rfl (fun _ h₁ => ?_); replace hF := rl9 hF h₁; clear h₁; (refine goes_oper_k rfl rfl (by k_ne) (fun Kx hKx => ?_); first | (have hcv := run_convert_to_unsafe (P := P) H.underlying_tWgP H.underlying_tUP H.room_tWg (WgLive.cell0 hF.2).choose_spec; have hce := fun es => events_convert_to_unsafe (P := P) H.underlying_tWgP H.underlying_tUP H.room_tWg (WgLive.cell0 hF.2).choose_spec es; go_simp; refine hKx _ _ ⟨?_, ?_⟩; (· refine d0_none ?_; intro ex hex; have hmx := mem_listed hex; simp [go_sem, hce] at hmx); clear hKx Kx hcv hce) | (have hcv := run_convert_to_unsafe (P := P) H.underlying_tPU32 H.underlying_tUP H.room_tU32 (WgLive.cell1 hF.2).choose_spec; have hce := fun es => events_convert_to_unsafe (P := P) H.underlying_tPU32 H.underlying_tUP H.room_tU32 (WgLive.cell1 hF.2).choose_spec es; go_simp; refine hKx _ _ ⟨?_, ?_⟩; (· refine d0_none ?_; intro ex hex; have hmx := mem_listed hex; simp [go_sem, hce] at hmx); clear hKx Kx hcv hce)))
      refine Goes.stop (fun w₆ h₆ => ?_)
      replace hF := rl9 hF h₆
      clear h₆
      refine ⟨rfl, _, stepG_markAt .acquire (by simp) rfl rfl (by k_ne) rfl H.f_acquire (x_acquire_n L) (x_acquire_b L) (x_acquire_x L) (x_acquire_f L) (by simp [Act.eval, stA]), rfl, hFin _ _ hF.1 hF.2 (mT + 200) ?_⟩
      walk_nrm
      (refine Goes.step rfl (fun _ h₁ => ?_); replace hF := rl8 hF h₁; clear h₁; ((first | rw [stepG_seq] | rw [stepG_region_end] | rw [stepG_skip] | rw [stepG_block] | rw [stepG_loop] | rw [stepG_inBlock] | rw [stepG_inLoop] | rw [stepG_ret'] | rw [stepG_end]); simp only [goes_go]; refine ⟨(by refine hDA _ _ ?_; intro e he; simp at he), ?_⟩))
      (refine Goes.step rfl (fun _ h₁ => ?_); replace hF := rl8 hF h₁; clear h₁; ((first | rw [stepG_seq] | rw [stepG_region_end] | rw [stepG_skip] | rw [stepG_block] | rw [stepG_loop] | rw [stepG_inBlock] | rw [stepG_inLoop] | rw [stepG_ret'] | rw [stepG_end]); simp only [goes_go]; refine ⟨(by refine hDA _ _ ?_; intro e he; simp at he), ?_⟩))
      (refine Goes.step rfl (fun _ h₁ => ?_); replace hF := rl8 hF h₁; clear h₁; ((first | rw [stepG_seq] | rw [stepG_region_end] | rw [stepG_skip] | rw [stepG_block] | rw [stepG_loop] | rw [stepG_inBlock] | rw [stepG_inLoop] | rw [stepG_ret'] | rw [stepG_end]); simp only [goes_go]; refine ⟨(by refine hDA _ _ ?_; intro e he; simp at he), ?_⟩))
      (refine Goes.step rfl (fun _ h₁ => ?_); replace hF := rl8 hF h₁; clear h₁; (rw [stepG_region]; simp only [goes_go, List.size_toArray, List.length_cons, List.length_nil, Nat.reduceAdd, Nat.zero_add, List.range, List.range.loop]; refine ⟨(by refine hDA _ _ ?_; intro e he; simp at he), ?_⟩))
      (refine Goes.step rfl (fun _ h₁ => ?_); replace hF := rl8 hF h₁; clear h₁; (refine goes_oper_k rfl rfl (by k_ne) (fun K hK => ?_); go_simp; refine hK _ _ ⟨?_, ?_⟩; (· refine hDA _ _ ?_; intro e he; have hm := mem_listed he; simp [go_sem, *] at hm); clear hK K; try w_num))
      (refine Goes.step rfl (fun _ h₁ => ?_); replace hF := rl8 hF h₁; clear h₁; ((first | rw [stepG_seq] | rw [stepG_region_end] | rw [stepG_skip] | rw [stepG_block] | rw [stepG_loop] | rw [stepG_inBlock] | rw [stepG_inLoop] | rw [stepG_ret'] | rw [stepG_end]); simp only [goes_go]; refine ⟨(by refine hDA _ _ ?_; intro e he; simp at he), ?_⟩))
      (refine Goes.step rfl (fun _ h₁ => ?_); replace hF := rl8 hF h₁; clear h₁; ((first | rw [stepG_cond (t := true) rfl] | rw [stepG_cond (t := false) rfl] | rw [stepG_cond (t := false) (by simp [Act.eval]; omega)] | rw [stepG_cond (t := true) (by simp [Act.eval]; omega)]); simp only [goes_go, if_true, if_false, Bool.false_eq_true, ↓reduceIte]; refine ⟨(by refine hDA _ _ ?_; intro e he; simp at he), ?_⟩))
      (refine Goes.step rfl (fun _ h₁ => ?_); replace hF := rl8 hF h₁; clear h₁; ((first | rw [stepG_seq] | rw [stepG_region_end] | rw [stepG_skip] | rw [stepG_block] | rw [stepG_loop] | rw [stepG_inBlock] | rw [stepG_inLoop] | rw [stepG_ret'] | rw [stepG_end]); simp only [goes_go]; refine ⟨(by refine hDA _ _ ?_; intro e he; simp at he), ?_⟩))
      (refine Goes.step rfl (fun _ h₁ => ?_); replace hF := rl8 hF h₁; clear h₁; ((first | rw [stepG_seq] | rw [stepG_region_end] | rw [stepG_skip] | rw [stepG_block] | rw [stepG_loop] | rw [stepG_inBlock] | rw [stepG_inLoop] | rw [stepG_ret'] | rw [stepG_end]); simp only [goes_go]; refine ⟨(by refine hDA _ _ ?_; intro e he; simp at he), ?_⟩))
      refine Goes.step rfl (fun _ h₁ => ?_); replace hF := rl8 hF h₁; clear h₁
      refine goes_leave0 rfl rfl H.f_wait rfl ⟨(by refine hDA _ _ ?_; intro e he; simp at he), ?_⟩
      walk_nrm
      exact Goes.mono (hT _ hF.1 hF.2) (by omega)
    · refine ⟨_, stepG_cas_miss (v := (v' : Int) * KK) (old := S) (n := S + 1) rfl rfl (by k_ne) rfl H.f_casU64 (x_casU64_n L) (x_casU64_b L) (x_casU64_x L) .u64 (x_casU64_f L) rfl rfl rfl hw.cellSt (hw.thaw 0) (by rw [← hS]; simp only [KK]; omega), 200, ?_⟩
      clear hw
      walk_nrm
      (refine Goes.step rfl (fun _ h₁ => ?_); replace hF := rl9 hF h₁; clear h₁; (refine goes_oper_k rfl rfl (by k_ne) (fun K hK => ?_); go_simp; refine hK _ _ ⟨?_, ?_⟩; (· refine d0_none ?_; intro e he; have hm := mem_listed he; simp [go_sem, *] at hm); clear hK K; try w_num))
      (refine Goes.step rfl (fun _ h₁ => ?_); replace hF := rl9 hF h₁; clear h₁; ((first | rw [stepG_seq] | rw [stepG_region_end] | rw [stepG_skip] | rw [stepG_block] | rw [stepG_loop] | rw [stepG_inBlock] | rw [stepG_inLoop] | rw [stepG_ret'] | rw [stepG_end]); simp only [goes_go]; refine ⟨(by refine d0_none ?_; intro e he; simp at he), ?_⟩))
      (refine Goes.step rfl (fun _ h₁ => ?_); replace hF := rl9 hF h₁; clear h₁; ((first | rw [stepG_seq] | rw [stepG_region_end] | rw [stepG_skip] | rw [stepG_block] | rw [stepG_loop] | rw [stepG_inBlock] | rw [stepG_inLoop] | rw [stepG_ret'] | rw [stepG_end]); simp only [goes_go]; refine ⟨(by refine d0_none ?_; intro e he; simp at he), ?_⟩))
      (refine Goes.step rfl (fun _ h₁ => ?_); replace hF := rl9 hF h₁; clear h₁; (first | (refine goes_leave1 rfl rfl H.f_uAdd rfl ⟨(by refine d0_none ?_; intro e he; simp at he), ?_⟩; walk_nrm) | (refine goes_leave1 rfl rfl H.f_uLoad rfl ⟨(by refine d0_none ?_; intro e he; simp at he), ?_⟩; walk_nrm) | (refine goes_leave1 rfl rfl H.f_uCas rfl ⟨(by refine d0_none ?_; intro e he; simp at he), ?_⟩; walk_nrm)))
      (refine Goes.step rfl (fun _ h₁ => ?_); replace hF := rl9 hF h₁; clear h₁; ((first | rw [stepG_seq] | rw [stepG_region_end] | rw [stepG_skip] | rw [stepG_block] | rw [stepG_loop] | rw [stepG_inBlock] | rw [stepG_inLoop] | rw [stepG_ret'] | rw [stepG_end]); simp only [goes_go]; refine ⟨(by refine d0_none ?_; intro e he; simp at he), ?_⟩))
      (refine Goes.step rfl (fun _ h₁ => ?_); replace hF := rl9 hF h₁; clear h₁; ((first | rw [stepG_cond (t := true) rfl] | rw [stepG_cond (t := false) rfl] | rw [stepG_cond (t := false) (by simp [Act.eval]; omega)] | rw [stepG_cond (t := true) (by simp [Act.eval]; omega)]); simp only [goes_go, if_true, if_false, Bool.false_eq_true, ↓reduceIte]; refine ⟨(by refine d0_none ?_; intro e he; simp at he), ?_⟩))
      (refine Goes.step rfl (fun _ h₁ => ?_); replace hF := rl9 hF h₁; clear h₁; ((first | rw [stepG_seq] | rw [stepG_region_end] | rw [stepG_skip] | rw [stepG_block] | rw [stepG_loop] | rw [stepG_inBlock] | rw [stepG_inLoop] | rw [stepG_ret'] | rw [stepG_end]); simp only [goes_go]; refine ⟨(by refine d0_none ?_; intro e he; simp at he), ?_⟩))
      (refine Goes.step rfl (fun _ h₁ => ?_); replace hF := rl9 hF h₁; clear h₁; ((first | rw [stepG_seq] | rw [stepG_region_end] | rw [stepG_skip] | rw [stepG_block] | rw [stepG_loop] | rw [stepG_inBlock] | rw [stepG_inLoop] | rw [stepG_ret'] | rw [stepG_end]); simp only [goes_go]; refine ⟨(by refine d0_none ?_; intro e he; simp at he), ?_⟩))
      (refine Goes.step rfl (fun _ h₁ => ?_); replace hF := rl9 hF h₁; clear h₁; ((first | rw [stepG_seq] | rw [stepG_region_end] | rw [stepG_skip] | rw [stepG_block] | rw [stepG_loop] | rw [stepG_inBlock] | rw [stepG_inLoop] | rw [stepG_ret'] | rw [stepG_end]); simp only [goes_go]; refine ⟨(by refine d0_none ?_; intro e he; simp at he), ?_⟩))
      refine Goes.stop (fun w₃ h₃ => ?_)
      replace hF := rl9 hF h₃
      exact ⟨_, rfl, by simp, by simp, hF⟩
end
end Go.Proofs.Ytinghnaigpenkaa
