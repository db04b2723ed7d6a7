/- The set of equations by which walks are reckoned. -/
import Derived.Test.YtmkdbninmimndaaVmW
namespace Go.Vm
attribute [go_sem ↓] LOps_cons LOps_nil LOps_guard LOp_move LOp_assign LOp_pick LOp_bin LOp_un LOp_nilCheck LOp_makeFunc LOp_extract LOp_fieldAddr LOp_indexAddr LOp_load LOp_store LOp_box LOp_alloc LOp_makeSlice LOp_build LOp_buildSlice LOp_slice LOp_convert LOp_field LOp_index LOp_builtin LOp_makeMap LOp_lookup LOp_mapUpdate LOp_insert LOp_range LOp_entry LOp_next LOp_arrAt LOp_call LOp_callv onO_ite onO_eq onPtr_eq onBool_eq Ex.next_eq
attribute [go_sem] beq_ft beq_tf beq_tt beq_ff LS wantL_some one evV_tmp evV_func evV_bool evV_int evV_str evV_nilp evV_nils evV_nilm evV_nilf evV_nili Tm.put_some Tm.put_none initTm setL Tm.set_mk Tm.get_mk Tr.get_node Tr.put_node Tr.put_nil Tr.get_nil binN nilsV binW binA binV eqSmall notNil loadV storeV evVs evB lenV lenOfV intBin intShift unV takeH evRes retV allB idxAddr evI evParts SRange SEnd V.cellsV allOne V.one
end Go.Vm
