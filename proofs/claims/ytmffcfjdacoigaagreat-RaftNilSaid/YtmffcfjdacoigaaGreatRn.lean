/- RaftNil, plainly. -/
import Derived.Test.YtmffcfjdacoigaaGreatG2
import Derived.Test.YtmffcfjdacoigaaGreatPl
namespace Go.Proofs.YtmffcfjdacoigaaGreat
open Go.RowKit
set_option maxRecDepth 100000
set_option linter.unusedVariables false
set_option linter.unusedSimpArgs false
theorem stepN {α β : Type} {step : α → Option (α ⊕ β)} {a a' : α} {b : β} (h : step a = some (.inl a')) (h2 : loopM step a' = some b) : loopM step a = some b := (loopM_next h).trans h2
theorem w1 : raft_within 1 5 [1] = some (true, ()) := by
  unfold raft_within slices_ContainsFunc slices_IndexFunc
  exact bindS (bindS (bindS (loopM_of (n := 3) rfl) rfl) rfl) rfl
theorem w2 : raft_within 0 1073741824 [0] = some (true, ()) := by
  unfold raft_within slices_ContainsFunc slices_IndexFunc
  exact bindS (bindS (bindS (loopM_of (n := 3) rfl) rfl) rfl) rfl
theorem w3 : raft_within 0 5 [0] = some (true, ()) := by
  unfold raft_within slices_ContainsFunc slices_IndexFunc
  exact bindS (bindS (bindS (loopM_of (n := 3) rfl) rfl) rfl) rfl
theorem c1 : slices_Contains [1] 1 = some (true, ()) := by
  unfold slices_Contains slices_Index
  exact bindS (bindS (loopM_of (n := 3) rfl) rfl) rfl
theorem c0 : slices_Contains [] 1 = some (false, ()) := by
  unfold slices_Contains slices_Index
  exact bindS (bindS (loopM_of (n := 3) rfl) rfl) rfl
abbrev cf1 : DConfig := ⟨[1], [], [], []⟩
theorem votes1 : quorum_Votes cf1 1 = some (true, ()) := by
  unfold quorum_Votes
  exact bindS c1 (condT rfl rfl)
theorem r1 : quorum_rise1 [1] = some (false, ()) := by
  unfold quorum_rise1
  exact bindS (loopM_of (n := 3) rfl) rfl
theorem r0 : quorum_rise1 [] = some (false, ()) := by
  unfold quorum_rise1
  exact bindS (loopM_of (n := 3) rfl) rfl
theorem rise_ : quorum_rise [[1], [], [], []] = some (true, ()) := by
  have h : loopM slices_IndexFunc_2_l1 (([[1], [], [], []], (), 4, 0, ()), ()) = some (.inr ((), ())) :=
    stepN (condT rfl (bindS rfl (bindS r1 (condF rfl rfl)))) (stepN (condT rfl (bindS rfl (bindS r0 (condF rfl rfl)))) (stepN (condT rfl (bindS rfl (bindS r0 (condF rfl rfl)))) (stepN (condT rfl (bindS rfl (bindS r0 (condF rfl rfl)))) (loopM_end (condF rfl rfl)))))
  unfold quorum_rise slices_ContainsFunc_2 slices_IndexFunc_2
  exact bindS (bindS (bindS h rfl) rfl) rfl
theorem right_ : quorum_right ⟨cf1⟩ = some (true, ()) := by
  unfold quorum_right
  exact bindS rise_ (condF rfl (condF rfl (bindS rfl (condF rfl (bindS rfl (condF rfl rfl))))))
theorem without_ : quorum_without [1] [1] = some ([], ((), ())) := by
  have h : loopM quorum_without_l1 (([1], [], [1], 1, 0, ()), ((), ())) = some (([], ()), ((), (), ())) :=
    stepN (condT rfl (bindS rfl (bindS c1 (condF rfl rfl)))) (loopM_end (condF rfl rfl))
  unfold quorum_without
  exact bindS h rfl
theorem agrees_ : quorum_Agrees cf1 [1] = some (true, ()) := by
  unfold quorum_Agrees quorum_most
  exact bindS right_ (condT rfl (bindS (bindS without_ rfl) (condT rfl (bindS rfl (condT rfl rfl)))))
theorem next_ : quorum_Next cf1 = some ((⟨[], [], [], []⟩, false, ()), ()) := by
  unfold quorum_Next
  exact bindS right_ (condF rfl (bindS rfl (condT rfl rfl)))
abbrev LgT := (Int) × (Int) × (List (Int)) × (List (Int)) × (List (Int)) × (List (Int)) × (Bool) × (List (DEntry)) × Unit
abbrev lg0 : LgT := (0, 0, [1], [], [], [], true, [], ())
abbrev en1 : DEntry := ⟨1, 1, [], ⟨[], [], [], []⟩⟩
abbrev lg1 : LgT := (0, 0, [1], [], [], [], true, [en1], ())
theorem conf0 : log_Config lg0 = some ((cf1, 0, ()), (lg0, (), (), ())) := by
  unfold log_Config log_force
  exact bindS rfl (condF rfl (bindS rfl (bindS (bindS (loopM_of (n := 2) rfl) rfl) rfl)))
theorem conf1 : log_Config lg1 = some ((cf1, 0, ()), (lg1, (), (), ())) := by
  unfold log_Config log_force
  exact bindS rfl (condF rfl (bindS rfl (bindS (bindS (loopM_of (n := 3) rfl) rfl) rfl)))
theorem log0 : log_New ⟨0, 0, cf1⟩ = some ((), (lg0, (), ())) := rfl
abbrev PeT := (Int) × (Int) × (Int) × (Int) × (Int) × (Int) × (Int) × (Int) × (Int) × (Unit) × (List (Int)) × (Int) × (Int) × (Int) × (Int) × (Int) × (Int) × (Int) × (Int) × (Int) × (Int) × (Int) × (Int) × (Int) × (Int) × (Int) × (Int) × (Int) × (Int) × (Int) × (Int) × (Int) × (Int) × (Int) × (Int) × (Bool) × (Int) × Unit
/-- The peer: its term, vote, role, lead, commit, ticks, votes, what it knows of others, what is to be kept. -/
abbrev pe (term vote role lead commit since : Int) (votes : List Int) (nx : Int) (hard : Bool) (from_ : Int) : PeT := (1, term, vote, role, lead, commit, since, 10, 10, (), votes, nx, 0, 0, 0, nx, 0, 0, 0, nx, 0, 0, 0, nx, 0, 0, 0, nx, 0, 0, 0, nx, 0, 0, 0, hard, from_, ())
abbrev pk (k : Int) : PeT := pe 0 0 1 0 0 k [] 0 false 0
theorem new0 : raft_New 1 0 0 lg0 = some ((), (lg0, (), pk 0, (), (), ())) := by
  unfold raft_New
  exact bindS w1 (condF rfl (bindS w2 (condF rfl (bindS w3 (condF rfl (bindS rfl (bindS rfl (condF rfl (bindS rfl rfl)))))))))
theorem t0 : raft_Tick 0 (pk 0) lg0 = some ([], (pk 1, lg0, (), (), (), (), (), ())) := rfl
theorem t1 : raft_Tick 0 (pk 1) lg0 = some ([], (pk 2, lg0, (), (), (), (), (), ())) := rfl
theorem t2 : raft_Tick 0 (pk 2) lg0 = some ([], (pk 3, lg0, (), (), (), (), (), ())) := rfl
theorem t3 : raft_Tick 0 (pk 3) lg0 = some ([], (pk 4, lg0, (), (), (), (), (), ())) := rfl
theorem t4 : raft_Tick 0 (pk 4) lg0 = some ([], (pk 5, lg0, (), (), (), (), (), ())) := rfl
theorem t5 : raft_Tick 0 (pk 5) lg0 = some ([], (pk 6, lg0, (), (), (), (), (), ())) := rfl
theorem t6 : raft_Tick 0 (pk 6) lg0 = some ([], (pk 7, lg0, (), (), (), (), (), ())) := rfl
theorem t7 : raft_Tick 0 (pk 7) lg0 = some ([], (pk 8, lg0, (), (), (), (), (), ())) := rfl
theorem t8 : raft_Tick 0 (pk 8) lg0 = some ([], (pk 9, lg0, (), (), (), (), (), ())) := rfl
abbrev pa : PeT := pe 1 1 3 1 0 0 [1] 0 true 0
abbrev pb : PeT := pe 1 1 3 1 0 0 [1] 1 true 0
abbrev pc : PeT := pe 1 1 3 1 0 0 [1] 1 true 1
abbrev pd : PeT := pe 1 1 3 1 1 0 [1] 1 true 1
theorem stands10 : raft_stands (pk 10) lg0 = some (true, (pk 10, lg0, (), (), (), (), ())) := by
  unfold raft_stands
  exact bindS conf0 (bindS votes1 (condT rfl rfl))
theorem config10 : raft_config (pk 10) lg0 = some (cf1, (pk 10, lg0, (), (), (), (), ())) := by
  unfold raft_config
  exact bindS conf0 rfl
theorem configc : raft_config pc lg1 = some (cf1, (pc, lg1, (), (), (), (), ())) := by
  unfold raft_config
  exact bindS conf1 rfl
theorem configd : raft_config pd lg1 = some (cf1, (pd, lg1, (), (), (), (), ())) := by
  unfold raft_config
  exact bindS conf1 rfl
theorem ll1 : loopM raft_leads_l1 (((), 0, ()), (pa, lg0, (), (), ())) = some (((), ()), (pb, lg0, (), (), (), (), ())) := loopM_of (n := 8) rfl
theorem put1 : raft_put (0, 1, 1) pb [⟨0, 1, [], ⟨[], [], [], []⟩⟩] lg0 = some (1, (pc, [en1], lg1, (), (), (), (), ())) := by
  have h : log_own (0, 1, 1) [en1] = some ([en1], ([en1], (), ())) := by
    unfold log_own
    exact bindS (loopM_of (n := 3) rfl) rfl
  have h2 : log_Put (0, 1, 1) lg0 [en1] = some (1, (lg1, [en1], (), (), ())) := by
    unfold log_Put
    exact bindS rfl (condT rfl (bindS h rfl))
  unfold raft_put
  exact bindS (loopM_of (n := 3) (b := (((), (0, 1, 1), ()), (pb, [en1], lg0, (), (), (), (), ()))) rfl) (bindS rfl (bindS rfl (bindS h2 rfl)))
theorem agreed1 : raft_agreed pc lg1 = some (1, (pc, lg1, (), (), (), (), ())) := by
  have h : loopM raft_agreed_l1 (((), (), (), ()), (pc, cf1, 1, lg1, (), (), ())) = some (.inl ((1, ()), (pc, cf1, 1, lg1, (), (), (), (), ()))) :=
    loopM_end (condT rfl (bindS rfl (condT rfl (bindS rfl (bindS agrees_ (condT rfl rfl))))))
  unfold raft_agreed
  exact bindS configc (bindS rfl (bindS h rfl))
theorem commit1 : raft_commit pc lg1 = some (false, (pd, lg1, (), (), (), (), ())) := by
  have h : loopM raft_commit_l1 (((), false, ()), (pc, lg1, (), (), ())) = some ((false, ()), (pd, lg1, (), (), (), (), ())) :=
    loopM_end (bindS agreed1 (bindS conf1 (bindS rfl (condF rfl (condF rfl (bindS next_ (condF rfl (condT rfl (bindS votes1 (condF rfl rfl))))))))))
  unfold raft_commit
  exact bindS h rfl
theorem concat1 : slices_Concat [[1], [], []] = some (1, ([1], ())) := by
  unfold slices_Concat
  exact bindS (loopM_of (n := 5) rfl) (bindS rfl (bindS (loopM_of (n := 5) rfl) rfl))
theorem sort1 : sortI 1 [1] = some ((), ([1], ())) := by
  simp [sortI, List.mergeSort_singleton]
theorem nodes1 : quorum_Nodes cf1 = some ((0, 1), ([1], ())) := by
  unfold quorum_Nodes
  exact bindS concat1 (bindS sort1 rfl)
theorem all1 : raft_all pd lg1 = some ((), (pd, lg1, (), (), (), (), ())) := by
  unfold raft_all
  exact bindS configd (bindS nodes1 (bindS (loopM_of (n := 3) (b := (((), ()), (pd, lg1, (), (), (), (), (), ()))) rfl) rfl))
theorem leads1 : raft_leads (pe 1 1 2 0 0 0 [1] 0 true 0) lg0 = some ((), (pd, lg1, (), (), (), (), ())) := by
  unfold raft_leads
  exact bindS ll1 (bindS put1 (bindS commit1 (bindS all1 rfl)))
theorem asks1 : raft_asks 0 (pk 10) lg0 = some ([], (pd, lg1, (), (), (), (), (), ())) := by
  unfold raft_asks
  exact bindS config10 (bindS rfl (bindS agrees_ (condT rfl (bindS leads1 rfl))))
theorem t9 : raft_Tick 0 (pk 9) lg0 = some ([], (pd, lg1, (), (), (), (), (), ())) := by
  unfold raft_Tick
  exact bindS rfl (condF rfl (condF rfl (condT rfl (condF rfl (bindS stands10 (condF rfl (condF rfl (bindS asks1 rfl))))))))
theorem awake_p : wl_awake = some (true, ()) := by
  have h : loopM wl_awake_l1 (((), 0, ()), (pk 0, lg0, (), (), ())) = some (((), ()), (pd, lg1, (), (), (), (), ())) :=
    stepN (condT rfl (bindS t0 rfl)) <| stepN (condT rfl (bindS t1 rfl)) <| stepN (condT rfl (bindS t2 rfl)) <| stepN (condT rfl (bindS t3 rfl)) <| stepN (condT rfl (bindS t4 rfl)) <|
    stepN (condT rfl (bindS t5 rfl)) <| stepN (condT rfl (bindS t6 rfl)) <| stepN (condT rfl (bindS t7 rfl)) <| stepN (condT rfl (bindS t8 rfl)) <| stepN (condT rfl (bindS t9 rfl)) <| loopM_end (condF rfl rfl)
  unfold wl_awake
  exact bindS log0 (bindS new0 (bindS h rfl))
theorem entries_ok {l : List DEntry} (hl : l.length ≤ 140737488355328) (m : Int) : ∃ n : Int, wk_EntriesOf l m = some (n, ()) := by
  have key : ∃ z, loopM wk_EntriesOf_l1 ((l, m, 0, 0, ()), ()) = some z ∧ ∃ n : Int, z = ((n, ()), ()) := by
    refine loopM_spec (fun r a => ∃ (n : Int) (i : Nat), a = ((l, m, n, (i : Int), ()), ()) ∧ i ≤ l.length ∧ r = l.length - i) _ ?_ (n := l.length) ⟨0, 0, rfl, Nat.zero_le _, rfl⟩
    rintro r a ⟨n, i, rfl, g1, rfl⟩
    unfold wk_EntriesOf_l1
    by_cases hi : i < l.length
    · by_cases hn : n ≤ m
      · left
        refine ⟨l.length - (i + 1), _, by omega, condT (dT (by (try dsimp only); omega)) (condT (dT hn) (bindS (getI_lt hi) (bindS (getI_lt hi) (bindS rfl rfl)))), ?_, i + 1, ?_, by omega, rfl⟩
        rotate_left
        · dsimp only
          rw [w64 (n := (i : Int) + 1) (by omega)]
          rfl
      · right
        exact ⟨_, condT (dT (by (try dsimp only); omega)) (condF (dF hn) rfl), n, rfl⟩
    · right
      exact ⟨_, condF (dF (by (try dsimp only); omega)) rfl, n, rfl⟩
  obtain ⟨z, hz, n, rfl⟩ := key
  unfold wk_EntriesOf
  exact ⟨n, bindS hz rfl⟩
theorem rows_ok {e : DCall} (he : e.rows.length ≤ 140737488355328) (xs : List DCall) (k : Int) : ∃ z, loopM wl_great_l2 ((xs, k, (), 0, ()), (e, ())) = some z ∧ ((∃ b, z = .inl ((b, ()), (e, ()))) ∨ z = .inr ((xs, k, ()), (e, ()))) := by
  refine loopM_spec (fun r a => ∃ (i : Nat), a = ((xs, k, (), (i : Int), ()), (e, ())) ∧ i ≤ e.rows.length ∧ r = e.rows.length - i) _ ?_ (n := e.rows.length) ⟨0, rfl, Nat.zero_le _, rfl⟩
  rintro r a ⟨i, rfl, g1, rfl⟩
  unfold wl_great_l2
  by_cases hi : i < e.rows.length
  · by_cases hn : (100 : Int) < (e.rows[i].length : Int)
    · right
      exact ⟨_, condT (dT (by (try dsimp only); omega)) (bindS (getI_lt hi) (condT (dT hn) rfl)), .inl ⟨_, rfl⟩⟩
    · left
      refine ⟨e.rows.length - (i + 1), ((xs, k, (), ((i + 1 : Nat) : Int), ()), (e, ())), by omega, condT (dT (by (try dsimp only); omega)) (bindS (getI_lt hi) (condF (dF hn) ?_)), i + 1, rfl, by omega, rfl⟩
      rw [w64 (n := (i : Int) + 1) (by omega)]
      rfl
  · right
    exact ⟨_, condF (dF (by (try dsimp only); omega)) rfl, .inr rfl⟩
theorem great_ok {x : DCall} (k : ok_DCall x) : ∃ b, wl_great [x] = some (b, ()) := by
  obtain ⟨_, _, kl, kr, _⟩ := k
  obtain ⟨_, _, _, _, _, _, _, _, _, ke, _⟩ := kl
  obtain ⟨n, hn⟩ := entries_ok ke.len 400
  have hL : ∃ n : Int, wk_LetterOf x.letter 400 = some (n, ()) := by
    unfold wk_LetterOf
    exact ⟨_, bindS rfl (bindS hn rfl)⟩
  obtain ⟨m, hm⟩ := hL
  obtain ⟨z, hz, hq⟩ := rows_ok kr.len [x] 0
  have hend : loopM wl_great_l1 (([x], 1, ()), ()) = some (.inr (([x], ()), ())) := loopM_end (condF rfl rfl)
  have key : ∃ r, loopM wl_great_l1 (([x], 0, ()), ()) = some r ∧ ((∃ b, r = .inl ((b, ()), ())) ∨ r = .inr (([x], ()), ())) := by
    by_cases h1 : (400 : Int) < m
    · exact ⟨_, loopM_end (condT rfl (condT rfl (bindS rfl (bindS hm (condT (dT h1) rfl))))), .inl ⟨_, rfl⟩⟩
    by_cases h2 : (20 : Int) < (x.want.length : Int)
    · exact ⟨_, loopM_end (condT rfl (condT rfl (bindS rfl (bindS hm (condF (dF h1) (condT (dT h2) rfl)))))), .inl ⟨_, rfl⟩⟩
    by_cases h3 : (10 : Int) < (x.rows.length : Int)
    · exact ⟨_, loopM_end (condT rfl (condT rfl (bindS rfl (bindS hm (condF (dF h1) (condF (dF h2) (condT (dT h3) rfl))))))), .inl ⟨_, rfl⟩⟩
    obtain ⟨c, hc⟩ : ∃ c : Int, wk_ConfigOf x.base.config = some (c, ()) := ⟨_, rfl⟩
    by_cases h4 : (40 : Int) < c
    · exact ⟨_, loopM_end (condT rfl (condT rfl (bindS rfl (bindS hm (condF (dF h1) (condF (dF h2) (condF (dF h3) (bindS hc (condT (dT h4) rfl))))))))), .inl ⟨_, rfl⟩⟩
    by_cases h5 : x.base.index < 0
    · exact ⟨_, loopM_end (condT rfl (condT rfl (bindS rfl (bindS hm (condF (dF h1) (condF (dF h2) (condF (dF h3) (bindS hc (condF (dF h4) (condT (dT h5) rfl)))))))))), .inl ⟨_, rfl⟩⟩
    by_cases h6 : (1073741824 : Int) < x.base.index
    · exact ⟨_, loopM_end (condT rfl (condT rfl (bindS rfl (bindS hm (condF (dF h1) (condF (dF h2) (condF (dF h3) (bindS hc (condF (dF h4) (condF (dF h5) (condT (dT h6) rfl))))))))))), .inl ⟨_, rfl⟩⟩
    by_cases h7 : x.base.term_ < 0
    · exact ⟨_, loopM_end (condT rfl (condT rfl (bindS rfl (bindS hm (condF (dF h1) (condF (dF h2) (condF (dF h3) (bindS hc (condF (dF h4) (condF (dF h5) (condF (dF h6) (condT (dT h7) rfl)))))))))))), .inl ⟨_, rfl⟩⟩
    rcases hq with ⟨b, rfl⟩ | rfl
    · exact ⟨_, loopM_end (condT rfl (condT rfl (bindS rfl (bindS hm (condF (dF h1) (condF (dF h2) (condF (dF h3) (bindS hc (condF (dF h4) (condF (dF h5) (condF (dF h6) (condF (dF h7) (bindS hz rfl))))))))))))), .inl ⟨_, rfl⟩⟩
    · exact ⟨_, stepN (condT rfl (condT rfl (bindS rfl (bindS hm (condF (dF h1) (condF (dF h2) (condF (dF h3) (bindS hc (condF (dF h4) (condF (dF h5) (condF (dF h6) (condF (dF h7) (bindS hz rfl))))))))))))) hend, .inr rfl⟩
  obtain ⟨r, hr, hq2⟩ := key
  unfold wl_great
  rcases hq2 with ⟨b, rfl⟩ | rfl
  · exact ⟨_, bindS hr rfl⟩
  · exact ⟨_, bindS hr rfl⟩
theorem new2 : raft_New_2 1 0 0 = some ((), ()) := by
  unfold raft_New_2
  exact bindS w1 (condF rfl (bindS w2 (condF rfl (bindS w3 (condF rfl rfl)))))
theorem new3 : raft_New_3 1 0 0 (0, 0, [], [], [], [], false, [], ()) = some ((), ((0, 0, [], [], [], [], false, [], ()), (), (), (), (), (), (), (), (), (), (), ())) := by
  unfold raft_New_3
  exact bindS w1 (condF rfl (bindS w2 (condF rfl (bindS w3 (condF rfl (bindS rfl (bindS rfl (condT rfl rfl))))))))
theorem RaftNil_p (x : DCall) (k : ok_DCall x) : wl_RaftNil x = some (true, ()) := by
  obtain ⟨b, hb⟩ := great_ok k
  unfold wl_RaftNil
  refine bindS awake_p (condF rfl (bindS hb ?_))
  cases b
  · exact condF rfl (bindS rfl (bindS rfl (bindS rfl (condF rfl (condF rfl (condF rfl (condF rfl (condF rfl (bindS rfl (condF rfl (bindS rfl (bindS rfl (bindS rfl (condF rfl (bindS rfl (condF rfl
      (bindS rfl (bindS rfl (bindS rfl (condF rfl (condF rfl (condF rfl (condF rfl (condF rfl (bindS rfl (condF rfl (bindS rfl (bindS rfl (bindS rfl (condF rfl (bindS rfl (condF rfl (bindS new2 (bindS new3 rfl))))))))))))))))))))))))))))))))))
  · exact condT rfl rfl
end Go.Proofs.YtmffcfjdacoigaaGreat
