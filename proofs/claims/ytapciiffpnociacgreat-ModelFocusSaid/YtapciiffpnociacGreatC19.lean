/- RuZ. Condition: none. -/
import Derived.Test.YtapciiffpnociacGreatC15
import Derived.Test.YtapciiffpnociacGreatC08

/- The program's slices.Min, Max and rule.folded. Condition: none. -/
namespace Go.Proofs.YtapciiffpnociacGreat
open Go Go.RowKit
section
variable {Γ : Ctx} {k : Nat} {L : Sl} {H : Hp} {K : Next'} {ops : List Oper} {rest : List Oper} {q : Bool} {x y : Operand}
theorem ds_min {d t t2 ty:Nat} {pos:String} {af:Array Edge} {g:Option (Nat × Bool)} {m n:Int} (hx:opSV L x = .d (.int .i64 m)) (hy:opSV L y = .d (.int .i64 n)) (hxo:opOkB x=true) (hyo:opOkB y=true) (hw:wantedSV ops L g=some true) (hd:Nat.blt d Γ.n=true)
  (hk:DS q Γ ops rest K k ((d,.d (.int .i64 (minI m n)))::L) H):DS q Γ ops (⟨some d,.call { callee:=.builtin .min,args:=#[x,y],argTypes:=#[t,t2] },ty,pos,af,g⟩::rest) K k L H:=by
 refine ds_ev (s:=.d (.int .i64 (minI m n))) (fun e a w m'=>⟨.int .i64 (minI m n),fun _ _ _ _ w' _=>?_,RepC.int ?_⟩) hw hd hk
 ·simp [execOp,resolve,invoke,builtin,evI m' hx,evI m' hy,Builtin.min_,Builtin.min2,minI]
 ·have h1:=evIw m' hxo hx
  have h2:=evIw m' hyo hy
  unfold minI;split <;> assumption
theorem ds_max {d t t2 ty:Nat} {pos:String} {af:Array Edge} {g:Option (Nat × Bool)} {m n:Int} (hx:opSV L x = .d (.int .i64 m)) (hy:opSV L y = .d (.int .i64 n)) (hxo:opOkB x=true) (hyo:opOkB y=true) (hw:wantedSV ops L g=some true) (hd:Nat.blt d Γ.n=true)
  (hk:DS q Γ ops rest K k ((d,.d (.int .i64 (maxI m n)))::L) H):DS q Γ ops (⟨some d,.call { callee:=.builtin .max,args:=#[x,y],argTypes:=#[t,t2] },ty,pos,af,g⟩::rest) K k L H:=by
 refine ds_ev (s:=.d (.int .i64 (maxI m n))) (fun e a w m'=>⟨.int .i64 (maxI m n),fun _ _ _ _ w' _=>?_,RepC.int ?_⟩) hw hd hk
 ·simp [execOp,resolve,invoke,builtin,evI m' hx,evI m' hy,Builtin.max_,Builtin.max2,maxI]
 ·have h1:=evIw m' hxo hx
  have h2:=evIw m' hyo hy
  unfold maxI;split <;> assumption
end
theorem fold_take {f:Int→Int→Int} {x:Int} {l:List Int} {i:Nat} (hi:i < l.length):(l.take (i + 1)).foldl f x=f ((l.take i).foldl f x) l[i]:=by
 rw [List.take_succ_eq_append_getElem hi,List.foldl_append];rfl
theorem sumI_take {l:List Int} {i:Nat} (hi:i < l.length):(l.take (i + 1)).sum=(l.take i).sum + l[i]:=by
 rw [List.take_succ_eq_append_getElem hi,List.sum_append];simp
theorem sum_bd:∀ (l:List Int),(∀ x∈l,-1000000≤x∧x≤1000000)→-1000000 * (l.length:Int)≤l.sum∧l.sum≤1000000 * (l.length:Int)
 | [],_=>by simp
 | x::l,h=>by
  have h1:=sum_bd l fun y hy=>h y (List.mem_cons_of_mem _ hy)
  have h2:=h x (List.mem_cons_self ..)
  rw [List.sum_cons,List.length_cons];omega
attribute [local irreducible] DW DS DL DQ Ev FnOk FnP thenD inBlockD DT
set_option maxHeartbeats 8000000 in
theorem min_fn (x:Int) (l:List Int):Fn 136 [.d (.slice 1 ((x::l).map encI))] (fun r=>r = .d (.int .i64 (minL (x::l)))):=by
 refine fnp_enter' _ Tryz.func136 rfl rfl (by kernel_rfl) ?_
 intro O w0 E0 β0
 have la:((x::l).map encI).length=l.length + 1:=List.length_map _
 refine dw_len (t:=0) rfl (fun hk=>?_)
 repeat' (first|refine z0 ?_|apply ds_nil|apply dw_seq2|refine z16 ?_|apply dw_block|apply dw_skip|refine z19 ?_|apply thenD_n)
 all_goals try (exfalso;omega)
 refine ds_loop (ι:=Nat) (fun i=>⟨0,[(0,.d (.slice 1 ((x::l).map encI))),(3,.d (.int .i64 ((l.take i).foldl minI x))),(4,.d (.int .i64 ((i + 1:Nat):Int)))],[]⟩)
  (fun i=>i≤l.length) (fun i=>l.length - i) 0 (Nat.zero_le _) (ent_ren id ⟨rfl,rfl,rfl,trivial⟩ trivial rfl rfl rfl rfl rfl rfl) ?_
 intro i g1
 dsimp only at g1 ⊢
 by_cases hi:i < l.length
 ·have hst:=fold_take (f:=minI) (x:=x) hi
  repeat' (first|(refine ds_min rfl rfl rfl rfl rfl rfl ?_)|(first|refine z0 ?_|apply ds_nil|apply dw_seq2|refine z16 ?_|apply dw_block|apply dw_skip|apply dw_exit|apply dw_ret|apply thenD_n|apply thenD_e|apply inB_n|refine z17 ?_|(refine z23 ?_ ?_ <;> intro hg)|fail))
  all_goals try (exfalso;omega)
  exact⟨i + 1,hi,ent_ren id ⟨rfl,by rw [hst];rfl,rfl,trivial⟩ trivial rfl rfl rfl rfl rfl rfl,by omega⟩
 ·rw [List.take_of_length_le (by omega)]
  repeat' (first|refine z0 ?_|apply ds_nil|apply dw_seq2|refine z16 ?_|apply dw_block|apply dw_skip|apply dw_exit|apply dw_ret|apply thenD_n|apply thenD_e|refine z17 ?_|(refine z23 ?_ ?_ <;> intro hg)|fail)
  all_goals try (exfalso;omega)
  exact⟨.inl rfl,_,rfl,rfl,rfl⟩
set_option maxHeartbeats 8000000 in
theorem max_fn (x:Int) (l:List Int):Fn 137 [.d (.slice 1 ((x::l).map encI))] (fun r=>r = .d (.int .i64 (maxL (x::l)))):=by
 refine fnp_enter' _ Tryz.func137 rfl rfl (by kernel_rfl) ?_
 intro O w0 E0 β0
 have la:((x::l).map encI).length=l.length + 1:=List.length_map _
 refine dw_len (t:=0) rfl (fun hk=>?_)
 repeat' (first|refine z0 ?_|apply ds_nil|apply dw_seq2|refine z16 ?_|apply dw_block|apply dw_skip|refine z19 ?_|apply thenD_n)
 all_goals try (exfalso;omega)
 refine ds_loop (ι:=Nat) (fun i=>⟨0,[(0,.d (.slice 1 ((x::l).map encI))),(3,.d (.int .i64 ((l.take i).foldl maxI x))),(4,.d (.int .i64 ((i + 1:Nat):Int)))],[]⟩)
  (fun i=>i≤l.length) (fun i=>l.length - i) 0 (Nat.zero_le _) (ent_ren id ⟨rfl,rfl,rfl,trivial⟩ trivial rfl rfl rfl rfl rfl rfl) ?_
 intro i g1
 dsimp only at g1 ⊢
 by_cases hi:i < l.length
 ·have hst:=fold_take (f:=maxI) (x:=x) hi
  repeat' (first|(refine ds_max rfl rfl rfl rfl rfl rfl ?_)|(first|refine z0 ?_|apply ds_nil|apply dw_seq2|refine z16 ?_|apply dw_block|apply dw_skip|apply dw_exit|apply dw_ret|apply thenD_n|apply thenD_e|apply inB_n|refine z17 ?_|(refine z23 ?_ ?_ <;> intro hg)|fail))
  all_goals try (exfalso;omega)
  exact⟨i + 1,hi,ent_ren id ⟨rfl,by rw [hst];rfl,rfl,trivial⟩ trivial rfl rfl rfl rfl rfl rfl,by omega⟩
 ·rw [List.take_of_length_le (by omega)]
  repeat' (first|refine z0 ?_|apply ds_nil|apply dw_seq2|refine z16 ?_|apply dw_block|apply dw_skip|apply dw_exit|apply dw_ret|apply thenD_n|apply thenD_e|refine z17 ?_|(refine z23 ?_ ?_ <;> intro hg)|fail)
  all_goals try (exfalso;omega)
  exact⟨.inl rfl,_,rfl,rfl,rfl⟩
set_option maxHeartbeats 8000000 in
theorem folded_fn (fold:Int) (l:List Int) (hl:l≠[]) (hn:∀ x∈l,-1000000≤x∧x≤1000000) (hlen:l.length≤1000000):Fn 96 [.d (.int .i64 fold),.d (.slice 1 (l.map encI))] (fun r=>r = .tup [.d (.int .i64 (valP fold l)),.d (.bool (okP fold l))]):=by
 refine fnp_enter' _ Tryz.func96 rfl rfl (by kernel_rfl) ?_
 intro O w0 E0 β0
 have la:(l.map encI).length=l.length:=List.length_map _
 have w3:=min_fn (l.headD 0) l.tail
 have w4:=max_fn (l.headD 0) l.tail
 rw [show l.headD 0::l.tail=l by cases l with|nil=>exact absurd rfl hl|cons x l=>rfl] at w3 w4
 have w5:=snumber_fn l.sum
 repeat' ((fail_if_success (apply dw_stopR 8));(first|refine z0 ?_|apply ds_nil|apply dw_seq2|refine z16 ?_|apply dw_block|apply dw_skip|apply dw_ret|apply thenD_n|apply thenD_r|apply inB_n|apply inB_r|refine z21 ?_ (hc:=by apply w3)|refine z21 ?_ (hc:=by apply w4)|(refine z23 ?_ ?_ <;> intro hg)|fail))
 ·exact⟨.inl rfl,.tup [.d (.int .i64 (l.map encI).length),.d (.bool true)],rfl,rfl,by unfold valP okP;simp_all⟩
 ·exact⟨.inl rfl,.tup [.d (.int .i64 (minL l)),.d (.bool true)],rfl,rfl,by unfold valP okP;simp_all⟩
 ·exact⟨.inl rfl,.tup [.d (.int .i64 (maxL l)),.d (.bool true)],rfl,rfl,by unfold valP okP;simp_all⟩
 refine dw_len (t:=1) rfl (fun hk=>?_)
 repeat' fail
 refine ds_loop (ι:=Nat) (fun i=>⟨0,[(1,.d (.slice 1 (l.map encI))),(6,.d (.int .i64 (l.take i).sum)),(22,.d (.slice 1 (l.map encI))),(23,.d (.int .i64 l.length)),(24,.d (.int .i64 i))],[]⟩)
  (fun i=>i≤l.length) (fun i=>l.length - i) 0 (Nat.zero_le _) (ent_ren id ⟨rfl,rfl,rfl,by rw [← la];rfl,rfl,trivial⟩ trivial rfl rfl rfl rfl rfl rfl) ?_
 intro i g1
 dsimp only at g1 ⊢
 by_cases hi:i < l.length
 ·have hst:=sumI_take hi
  have hb:=sum_bd (l.take (i + 1)) fun x hx=>hn x (List.mem_of_mem_take hx)
  have hx:=hn l[i] (List.getElem_mem hi)
  rw [List.length_take] at hb
  repeat' (first|refine z0 ?_|apply ds_nil|apply dw_seq2|refine z16 ?_|apply dw_block|apply dw_skip|apply dw_exit|apply thenD_n|apply thenD_e|apply inB_n|refine z17 ?_|(refine z23 ?_ ?_ <;> intro hg)|fail)
  all_goals try (exfalso;omega)
  exact⟨i + 1,hi,ent_ren id ⟨rfl,by rw [hst];rfl,rfl,rfl,rfl,trivial⟩ trivial rfl rfl rfl rfl rfl rfl,by omega⟩
 ·rw [List.take_of_length_le (by omega)]
  repeat' (first|refine z0 ?_|apply ds_nil|apply dw_seq2|refine z16 ?_|apply dw_block|apply dw_skip|apply dw_exit|apply dw_ret|apply thenD_n|apply thenD_e|apply inB_n|refine z17 ?_|refine z21 ?_ (hc:=by apply w5)|(refine z23 ?_ ?_ <;> intro hg)|fail)
  all_goals try (exfalso;omega)
  exact⟨.inl rfl,.tup [.d (.int .i64 l.sum),.d (.bool (numB l.sum))],rfl,rfl,by unfold valP okP;simp_all⟩
end Go.Proofs.YtapciiffpnociacGreat
